/-
  Contracts: networks scaled, without units (by the reference), joined. No condition.
-/
import Derived.Test.YtjoopfojiiklnaaNetG
namespace Go.Proofs.Ytjoopfojiiklnaa
open Go.RowKit Go.Lift Plain
set_option linter.unusedSimpArgs false
set_option linter.unusedVariables false
set_option maxRecDepth 100000

theorem sScaleNetwork_d {N : Net} {x : List Int} (h : NSz 1048576 N) (hx : Sz 1048576 x) :
    Does Try.prog 37 [netA N, .d (ints x)] [] (.tup [ownN 0 (scaleN N x), .d (.bool (scaleB N x))]) (stoN (scaleN N x)) := by
  have hnl := h.l
  (refine spec_of (by kernel_rfl) Try.func37 k_spec_ScaleNetwork (fnOk (Nat.le_of_ble_eq_true rfl) ?_); unfold C_spec_ScaleNetwork)
  (simp only [Nat.reduceSub, List.length_cons, List.length_nil, Nat.reduceAdd, ch_init1, ch_init2, ch_init3, ch_init4, ch_init5, ch_init6, ch_init7, ch_init8]; try simp only [ch_rep]); (simp only [go_sem, seval, reduceCtorEq, List.replicate])
  (refine ti_call (sNetworkOk_d h) ?_ ?_ ?_; (focus (simp only [go_sem, seval, reduceCtorEq]; done)); (first | rfl | (focus (simp only [go_sem]; done))))
  cases h1 : netOk N
  · have e : scaleB N x = false := by simp [scaleB, h1]
    simp only [go_sem, seval, reduceCtorEq, h1, e, scaleN, cond_false]
    refine FnEnd.wk (Wk.trans (Wk.nilS 1 3 3 _ _ _ rfl rfl) (Wk.nilS 1 4 1 _ _ _ rfl rfl)) ?_
    (refine FnEnd.mk (Nat.le_of_ble_eq_true rfl) rfl (of_decide_eq_true rfl) ?_ ?_ <;> try simp only [go_sem, seval, reduceCtorEq])
  have hr := (netOk_iff.1 h1).1
  have hl12 := (netOk_iff.1 h1).2.1
  have hel : (decide ((x.length : Int) = width ⟨N.k, N.p, N.n⟩) && fitsB ⟨N.k, N.p, N.n⟩ x) = elemOk N.rg x := by have hr' : ringOk ⟨N.k, N.p, N.n⟩ = true := hr; show _ = elemOk ⟨N.k, N.p, N.n⟩ x; simp [elemOk, hr']
  simp only [go_sem, seval, reduceCtorEq, h1]
  (refine ti_call (l02Elem_d (k := N.k) (p := N.p) (n := N.n) (xs := x) hr hx.up) ?_ ?_ ?_; (focus (simp only [go_sem, seval, reduceCtorEq]; done)); (first | rfl | (focus (simp only [go_sem]; done))))
  rw [hel]
  cases h2 : elemOk N.rg x
  · have e : scaleB N x = false := by simp [scaleB, h2]
    simp only [go_sem, seval, reduceCtorEq, h2, e, scaleN, cond_false]
    refine FnEnd.wk (Wk.trans (Wk.nilS 1 3 3 _ _ _ rfl rfl) (Wk.nilS 1 4 1 _ _ _ rfl rfl)) ?_
    (refine FnEnd.mk (Nat.le_of_ble_eq_true rfl) rfl (of_decide_eq_true rfl) ?_ ?_ <;> try simp only [go_sem, seval, reduceCtorEq])
  simp only [go_sem, seval, reduceCtorEq, h2]
  by_cases h3 : N.ts.length < 12
  rotate_left
  · have e : scaleB N x = false := by simp [scaleB, h3]
    have c : ((N.ts.length : Int) == 12) = true := by simp; omega
    simp only [go_sem, seval, reduceCtorEq, c, e, scaleN, cond_false]
    refine FnEnd.wk (Wk.trans (Wk.nilS 1 3 3 _ _ _ rfl rfl) (Wk.nilS 1 4 1 _ _ _ rfl rfl)) ?_
    (refine FnEnd.mk (Nat.le_of_ble_eq_true rfl) rfl (of_decide_eq_true rfl) ?_ ?_ <;> try simp only [go_sem, seval, reduceCtorEq])
  have c : ((N.ts.length : Int) == 12) = false := by simp; omega
  have e : scaleB N x = true := by simp [scaleB, h1, h2, h3]
  simp only [go_sem, seval, reduceCtorEq, c]
  (refine ti_call (l14Copy_d h) ?_ ?_ ?_; (focus (simp only [go_sem, seval, reduceCtorEq]; done)); (first | rfl | (focus (simp only [go_sem]; done))))
  simp only [go_sem, seval, reduceCtorEq]
  (refine gi_call (l05Ints_d (xs := x) hx.up.len) ?_ ?_ ?_; (focus (simp only [go_sem, seval, reduceCtorEq]; done)); (first | rfl | (focus (simp only [go_sem]; done))))
  simp only [go_sem, seval, reduceCtorEq]
  (repeat (refine And.intro (by omega) ?_))
  have hsc : tcA N.ts ++ [.tr (.sl 0 []), .tr (.sl 0 []), .tr (.sl x.length (dv x))] = tcA (N.ts ++ [scal x]) := by rw [tcA_app]; rfl
  have hln : (N.ts ++ [scal x]).length = N.ts.length + 1 := by simp
  simp only [go_sem, seval, reduceCtorEq, e, scaleN, cond_true]
  refine FnEnd.wk (Wk.nad 2 3 (N.ts.length * 3) true (τ := [_, _, _, _, _]) (Nat.le_of_ble_eq_true rfl) rfl tcA_len rfl (treL_iv _) (by simp only [go_sem, seval, reduceCtorEq])) ?_
  simp only [go_sem, seval, reduceCtorEq, dropF_ch, dropF_cons, dropF_nil, cut, cond_true, cond_false, Int.natCast_zero, Int.natCast_add, Int.natCast_one, hsc]
  rw [← hln]
  (refine FnEnd.mk (Nat.le_of_ble_eq_true rfl) rfl (of_decide_eq_true rfl) ?_ ?_ <;> try simp only [go_sem, seval, reduceCtorEq])
theorem mapL_spG_iv (i j k' n : Nat) (xs : List Int) : mapL (spG i j k' n) (iv xs) = iv xs := mapL_iv _ fun _ => rfl
theorem mapL_spG_tcA (i j k' n : Nat) (ts : List Ten) : mapL (spG i j k' n) (tcA ts) = tcA ts := mapL_tcA _ fun _ => rfl
section
variable {A B : List AV} {q : Nat} {x y z : AV}
theorem row3_take (h : A.length = q) : (A ++ [x, y, z] ++ B).take q = A := by subst h; simp
theorem row3_drop (h : A.length = q) : (A ++ [x, y, z] ++ B).drop (q + 3) = B := by subst h; simp
theorem row3_mid (h : A.length = q) : ((A ++ [x, y, z] ++ B).drop q).take 3 = [x, y, z] := by subst h; simp
theorem row3_len : (A ++ [x, y, z] ++ B).length = A.length + 3 + B.length := by simp; omega
end
set_option maxHeartbeats 1600000 in
theorem sDropUnits_d {N : Net} (h : NSz 1048576 N) : Does Try.prog 35 [netA N] [] (ownN 0 (dropN N)) (stoN (dropN N)) := by
  have hol := h.o.len
  have hnl := h.l
  (refine spec_of (by kernel_rfl) Try.func35 k_spec_DropUnits (fnOk (Nat.le_of_ble_eq_true rfl) ?_); unfold C_spec_DropUnits)
  (simp only [Nat.reduceSub, List.length_cons, List.length_nil, Nat.reduceAdd, ch_init1, ch_init2, ch_init3, ch_init4, ch_init5, ch_init6, ch_init7, ch_init8]; try simp only [ch_rep]); (simp only [go_sem, seval, reduceCtorEq, List.replicate])
  (refine ti_call (sNetworkOk_d h) ?_ ?_ ?_; (focus (simp only [go_sem, seval, reduceCtorEq]; done)); (first | rfl | (focus (simp only [go_sem]; done))))
  cases h1 : netOk N
  · simp only [go_sem, seval, reduceCtorEq, h1, dropN, cond_false]
    refine FnEnd.wk (Wk.trans (Wk.nilS 1 3 3 _ _ _ rfl rfl) (Wk.nilS 1 4 1 _ _ _ rfl rfl)) ?_
    (refine FnEnd.mk (Nat.le_of_ble_eq_true rfl) rfl (of_decide_eq_true rfl) ?_ ?_ <;> try simp only [go_sem, seval, reduceCtorEq])
  have hax := netOk_ax h1
  simp only [go_sem, seval, reduceCtorEq, h1, dropN, cond_true]
  (refine ti_call (l14Copy_d h) ?_ ?_ ?_; (focus (simp only [go_sem, seval, reduceCtorEq]; done)); (first | rfl | (focus (simp only [go_sem]; done))))
  simp only [go_sem, seval, reduceCtorEq]
  refine wpN_lp (N.ts.length) [false, false, false, false, true, true, true, true, true, false, false, false, false, false, false, false, false, false, false, true, true, true, true, true, true, true, true, true, true, true, true, true, true, true, true, true, true, true, true, true, true, true, true, true, true, true, true, true, true, true, true, true, true, true, true, true, true, true, true, true, true, true, true, true, true, true, true, true, true, true, true, false] (fun k => [(18, .d (.int k))]) (fun k => [(2, mapTo (dropT N.os) N.ts k)]) (fun _ => by (simp only [go_sem, seval, reduceCtorEq, dropF_ch, dropF_cons, dropF_nil, cut, cond_true, cond_false]); first | done | rfl) (fun _ => by (simp only [go_sem, seval, reduceCtorEq, cut]); first | done | rfl) (Nat.le_of_ble_eq_true rfl) (by first | (simp only [go_sem, seval, reduceCtorEq, dropF_ch, dropF_cons, dropF_nil, cut, cond_true, cond_false, Int.natCast_zero, Int.natCast_add, Int.natCast_one, mapTo_zero]; done) | rfl | (simp only [go_sem, seval, reduceCtorEq, dropF_ch, dropF_cons, dropF_nil, cut, cond_true, cond_false, Int.natCast_zero, Int.natCast_add, Int.natCast_one, mapTo_zero]; rfl)) (by first | (simp only [go_sem, seval, reduceCtorEq, dropF_ch, dropF_cons, dropF_nil, cut, cond_true, cond_false, Int.natCast_zero, Int.natCast_add, Int.natCast_one, mapTo_zero]; done) | rfl | (simp only [go_sem, seval, reduceCtorEq, dropF_ch, dropF_cons, dropF_nil, cut, cond_true, cond_false, Int.natCast_zero, Int.natCast_add, Int.natCast_one, mapTo_zero]; rfl)) fun k hk => ?_
  unfold L1_spec_DropUnits
  by_cases hlt : k < N.ts.length
  · have d1 : (k : Int) < N.ts.length := by omega
    have g3 := tcs_cut (List.getElem?_eq_getElem hlt)
    have hst := h.t N.ts[k] (List.getElem_mem hlt)
    have hel := (hax N.ts[k] (List.getElem_mem hlt)).len
    have hll := hst.l.len
    simp (disch := omega) only [go_sem, seval, reduceCtorEq, d1, g3]
    (repeat (refine And.intro (by omega) ?_))
    (refine ti_call (l05Ints_d (xs := N.ts[k].data) hst.x.up.len) ?_ ?_ ?_; (focus (simp only [go_sem, seval, reduceCtorEq]; done)); (first | rfl | (focus (simp only [go_sem]; done))))
    simp (disch := omega) only [go_sem, seval, reduceCtorEq]
    (refine wpN_lwk (Wk.nilS 7 0 1 _ _ _ rfl rfl) ?_; simp only [go_sem, seval, reduceCtorEq])
    (refine wpN_lwk (Wk.nilS 7 1 1 _ _ _ rfl rfl) ?_; simp only [go_sem, seval, reduceCtorEq])
    have hA := map3_len (f := dropT N.os) hk
    simp only [mapTo_split hlt, tcA_one, go_sem, seval, reduceCtorEq]
    refine wpN_lwk (Wk.sp3g 2 3 (k * 3) true (tcA ((N.ts.take k).map (dropT N.os))) (tcA (N.ts.drop (k + 1))) (Nat.le_of_ble_eq_true rfl) rfl hA (fun _ _ _ _ => by simp only [go_sem, seval, reduceCtorEq, mapL_spG_iv, mapL_spG_tcA, mapL_two]) (fun _ _ _ _ => by simp only [mapL_ch, mapL, mapA, spG])) ?_
    simp only [go_sem, seval, reduceCtorEq, dv_cellT]
    refine wpN_lp (N.ts[k].labels.length) [false, false, false, false, false, false, false, true, true, false, false, false, false, false, false, false, false, false, false, false, false, false, false, false, false, false, false, false, false, false, false, true, true, true, true, true, true, true, true, true, true, true, true, true, true, true, true, true, true, true, true, true, true, true, true, true, true, true, true, true, true, true, true, true, true, false, false, false, false, false, false, false] (fun q => [(30, .d (.int q))]) (fun q => [(7, [.own 8 0 (selTo (unitP N.os N.ts[k]) N.ts[k].labels q).length, .own 9 0 (selTo (unitP N.os N.ts[k]) N.ts[k].dims q).length, .own 6 0 N.ts[k].data.length]), (8, iv (selTo (unitP N.os N.ts[k]) N.ts[k].labels q)), (9, iv (selTo (unitP N.os N.ts[k]) N.ts[k].dims q))]) (fun _ => by (simp only [go_sem, seval, reduceCtorEq, dropF_ch, dropF_cons, dropF_nil, cut, cond_true, cond_false]); first | done | rfl) (fun _ => by (simp only [go_sem, seval, reduceCtorEq, cut]); first | done | rfl) (Nat.le_of_ble_eq_true rfl) (by first | (simp only [go_sem, seval, reduceCtorEq, dropF_ch, dropF_cons, dropF_nil, cut, cond_true, cond_false, Int.natCast_zero, Int.natCast_add, Int.natCast_one, selTo_zero, iv_nil, ← hel]; done) | rfl | (simp only [go_sem, seval, reduceCtorEq, dropF_ch, dropF_cons, dropF_nil, cut, cond_true, cond_false, Int.natCast_zero, Int.natCast_add, Int.natCast_one, selTo_zero, iv_nil, ← hel]; rfl)) (by first | (simp only [go_sem, seval, reduceCtorEq, dropF_ch, dropF_cons, dropF_nil, cut, cond_true, cond_false, Int.natCast_zero, Int.natCast_add, Int.natCast_one, selTo_zero, iv_nil, ← hel]; done) | rfl | (simp only [go_sem, seval, reduceCtorEq, dropF_ch, dropF_cons, dropF_nil, cut, cond_true, cond_false, Int.natCast_zero, Int.natCast_add, Int.natCast_one, selTo_zero, iv_nil, ← hel]; rfl)) fun q hq => ?_
    unfold L0_spec_DropUnits
    have sl1 := selTo_len (unitP N.os N.ts[k]) N.ts[k].labels q
    have sl2 := selTo_len (unitP N.os N.ts[k]) N.ts[k].dims q
    by_cases hqt : q < N.ts[k].labels.length
    · have d2 : (q : Int) < N.ts[k].labels.length := by omega
      have d3 : (q : Int) < N.ts[k].dims.length := by omega
      have hqd : q < N.ts[k].dims.length := by omega
      have g : N.ts[k].labels[q]? = some N.ts[k].labels[q] := List.getElem?_eq_getElem hqt
      have g' : N.ts[k].dims[q]? = some N.ts[k].dims[q] := List.getElem?_eq_getElem hqd
      have hp : unitP N.os N.ts[k] q = (decide (N.ts[k].dims[q] > 1) || has N.os N.ts[k].labels[q]) := by simp [unitP, hqt, hqd]
      by_cases hb : N.ts[k].dims[q] > 1
      · have hp' : unitP N.os N.ts[k] q = true := by rw [hp]; simp [hb]
        have y1 := selTo_yes (xs := N.ts[k].labels) hqt hp'
        have y2 := selTo_yes (xs := N.ts[k].dims) hqd hp'
        simp (disch := omega) only [go_sem, seval, reduceCtorEq, d2, d3, g, g', hb]
        (repeat (refine And.intro (by omega) ?_))
        (refine Next.drop [false, false, false, false, false, false, false, true, true, false, false, false, false, false, false, false, false, false, false, false, false, false, false, false, false, false, false, false, false, false, false, true, true, true, true, true, true, true, true, true, true, true, true, true, true, true, true, true, true, true, true, true, true, true, true, true, true, true, true, true, true, true, true, true, true, false, false, false, false, false, false, false] (by omega) (Nat.le_of_ble_eq_true rfl) ?_ ?_ <;> first | (simp only [go_sem, seval, reduceCtorEq, dropF_ch, dropF_cons, dropF_nil, cut, cond_true, cond_false, Int.natCast_zero, Int.natCast_add, Int.natCast_one, y1, y2, List.length_append]; done) | rfl | (simp only [go_sem, seval, reduceCtorEq, dropF_ch, dropF_cons, dropF_nil, cut, cond_true, cond_false, Int.natCast_zero, Int.natCast_add, Int.natCast_one, y1, y2, List.length_append]; rfl) | skip)
      · simp (disch := omega) only [go_sem, seval, reduceCtorEq, d2, d3, g, g', hb]
        (refine ti_call (l05Find_d (xs := N.os) (x := N.ts[k].labels[q]) h.o.up.len) ?_ ?_ ?_; (focus (simp only [go_sem, seval, reduceCtorEq]; done)); (first | rfl | (focus (simp only [go_sem]; done))))
        by_cases hm : N.ts[k].labels[q] ∈ N.os
        · have hp' : unitP N.os N.ts[k] q = true := by rw [hp, has_true.2 hm]; simp
          have c : place N.os N.ts[k].labels[q] ≥ 0 := by
            have h0 : ¬ place N.os N.ts[k].labels[q] < 0 := fun e => place_neg.1 e hm
            omega
          have y1 := selTo_yes (xs := N.ts[k].labels) hqt hp'
          have y2 := selTo_yes (xs := N.ts[k].dims) hqd hp'
          simp (disch := omega) only [go_sem, seval, reduceCtorEq, d2, d3, g, g', c]
          (repeat (refine And.intro (by omega) ?_))
          (refine Next.drop [false, false, false, false, false, false, false, true, true, false, false, false, false, false, false, false, false, false, false, false, false, false, false, false, false, false, false, false, false, false, false, true, true, true, true, true, true, true, true, true, true, true, true, true, true, true, true, true, true, true, true, true, true, true, true, true, true, true, true, true, true, true, true, true, true, false, false, false, false, false, false, false] (by omega) (Nat.le_of_ble_eq_true rfl) ?_ ?_ <;> first | (simp only [go_sem, seval, reduceCtorEq, dropF_ch, dropF_cons, dropF_nil, cut, cond_true, cond_false, Int.natCast_zero, Int.natCast_add, Int.natCast_one, y1, y2, List.length_append]; done) | rfl | (simp only [go_sem, seval, reduceCtorEq, dropF_ch, dropF_cons, dropF_nil, cut, cond_true, cond_false, Int.natCast_zero, Int.natCast_add, Int.natCast_one, y1, y2, List.length_append]; rfl) | skip)
        · have hp' : unitP N.os N.ts[k] q = false := by rw [hp, has_false.2 hm]; simp [hb]
          have c : ¬ place N.os N.ts[k].labels[q] ≥ 0 := by have := place_neg.2 hm; omega
          have y1 := selTo_no (xs := N.ts[k].labels) hp'
          have y2 := selTo_no (xs := N.ts[k].dims) hp'
          simp (disch := omega) only [go_sem, seval, reduceCtorEq, c]
          (repeat (refine And.intro (by omega) ?_))
          (refine Next.drop [false, false, false, false, false, false, false, true, true, false, false, false, false, false, false, false, false, false, false, false, false, false, false, false, false, false, false, false, false, false, false, true, true, true, true, true, true, true, true, true, true, true, true, true, true, true, true, true, true, true, true, true, true, true, true, true, true, true, true, true, true, true, true, true, true, false, false, false, false, false, false, false] (by omega) (Nat.le_of_ble_eq_true rfl) ?_ ?_ <;> first | (simp only [go_sem, seval, reduceCtorEq, dropF_ch, dropF_cons, dropF_nil, cut, cond_true, cond_false, Int.natCast_zero, Int.natCast_add, Int.natCast_one, y1, y2]; done) | rfl | (simp only [go_sem, seval, reduceCtorEq, dropF_ch, dropF_cons, dropF_nil, cut, cond_true, cond_false, Int.natCast_zero, Int.natCast_add, Int.natCast_one, y1, y2]; rfl) | skip)
    · have d2 : ¬ (q : Int) < N.ts[k].labels.length := by omega
      have d2' : ¬ (q : Int) < N.ts[k].dims.length := by omega
      obtain rfl : q = N.ts[k].labels.length := by omega
      simp (disch := omega) only [go_sem, seval, reduceCtorEq, d2, d2', d1, row3_take hA, row3_drop hA, row3_mid hA]
      refine And.intro (by rw [row3_len, hA]; omega) ?_
      (refine Next.mk (by omega) (Wk.trans (Wk.drG [8, 9, 6] 5 (Nat.le_of_ble_eq_true rfl) (Nat.le_of_ble_eq_true rfl) (of_decide_eq_true rfl) (of_decide_eq_true rfl)) ?_)); (simp only [go_sem, seval, reduceCtorEq, dropG_ch, dropG_cons, dropG_nil, cond_true, cond_false, Int.natCast_zero, Int.natCast_add, Int.natCast_one, mapTo_next hlt, tcA_one, dropT]); (refine Wk.eq (Wk.ad3 [false, false, false, false, true, true, true, true, true, false, false, false, false, false, false, false, false, false, false, true, true, true, true, true, true, true, true, true, true, true, true, true, true, true, true, true, true, true, true, true, true, true, true, true, true, true, true, true, true, true, true, true, true, true, true, true, true, true, true, true, true, true, true, true, true, true, true, true, true, true, true, false] 2 3 (k * 3) true (τ := [_, _, _, _, _]) (Nat.le_of_ble_eq_true rfl) rfl (hA) rfl (treL_iv _) (treL_iv _) (treL_iv _) (by simp only [go_sem, seval, reduceCtorEq]) (by simp only [go_sem, seval, reduceCtorEq]) (by simp only [go_sem, seval, reduceCtorEq]) (fun _ => rnL_iv _) (fun _ => rnL_iv _)) ?_ ?_ <;> first | (simp only [go_sem, seval, reduceCtorEq, dropF_ch, dropF_cons, dropF_nil, cut, cond_true, cond_false, Int.natCast_zero, Int.natCast_add, Int.natCast_one, mapTo_next hlt, tcA_one, dropT]; done) | rfl | (simp only [go_sem, seval, reduceCtorEq, dropF_ch, dropF_cons, dropF_nil, cut, cond_true, cond_false, Int.natCast_zero, Int.natCast_add, Int.natCast_one, mapTo_next hlt, tcA_one, dropT]; rfl) | skip)
  · have d1 : ¬ (k : Int) < N.ts.length := by omega
    have hmall := mapTo_all (f := dropT N.os) (ts := N.ts) (k := k) (by omega)
    simp (disch := omega) only [go_sem, seval, reduceCtorEq, d1, hmall, List.length_map]
    (refine FnEnd.mk (Nat.le_of_ble_eq_true rfl) rfl (of_decide_eq_true rfl) ?_ ?_ <;> try simp only [go_sem, seval, reduceCtorEq])
theorem totT_le : ∀ {ts : List Ten} {n : Nat}, ts.length ≤ n → (∀ t ∈ ts, TSz 1048576 t) → totT ts ≤ n * 3145728
  | [], n, _, _ => by simp [totT]
  | t :: l, n + 1, h, ht => by
    have h1 := totT_le (ts := l) (n := n) (by simpa using h) (fun u hu => ht u (List.mem_cons_of_mem _ hu))
    have h2 := ht t (List.mem_cons_self ..)
    have a := h2.l.len
    have b := h2.d.len
    have c := h2.x.len
    simp only [totT, lenT]
    omega
theorem openNet_tot {N : Net} {L : List Int} (h : NSz 1048576 N) (hL : Sz 1048576 L) : totT (openNet N L).ts + (openNet N L).os.length ≤ 100000000 := by
  have hL' := hL.len
  unfold openNet
  cases e : openB N L
  · simp [zeroN, totT]
  · simp only [openB, Bool.and_eq_true] at e
    have := totT_le (netOk_iff.1 e.1).2.1 h.t
    simp only [cond_true, Net.withO]
    omega
theorem scaleN_tot {N : Net} {x : List Int} (h : NSz 1048576 N) (hx : Sz 1048576 x) : totT (scaleN N x).ts + (scaleN N x).os.length ≤ 100000000 := by
  have hsz := scaleN_sz h hx
  have ho := hsz.o.len
  unfold scaleN at *
  cases e : scaleB N x
  · simp [zeroN, totT]
  · rw [e] at hsz ho
    simp only [scaleB, Bool.and_eq_true, decide_eq_true_eq] at e
    have := totT_le (n := 12) (by simp; omega) hsz.t
    simp only [cond_true] at ho this ⊢
    omega
theorem dropN_tot {N : Net} (h : NSz 1048576 N) : totT (dropN N).ts + (dropN N).os.length ≤ 100000000 := by
  have hsz := dropN_sz h
  have ho := hsz.o.len
  unfold dropN at *
  cases e : netOk N
  · simp [zeroN, totT]
  · rw [e] at hsz ho
    have := totT_le (n := 12) (by simp; exact (netOk_iff.1 e).2.1) hsz.t
    simp only [cond_true] at ho this ⊢
    omega
theorem markTs_take {ts : List Ten} {m : Int} : (tcA (markTs ts m)).take (ts.length * 3) = tcA (markTs ts m) := List.take_of_length_le (by rw [tcA_len, markTs_len]; exact Nat.le_refl _)
attribute [go_sem] markTs_take
end Go.Proofs.Ytjoopfojiiklnaa
