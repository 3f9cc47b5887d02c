/-
  Contracts: networks with their labels renamed. No condition.
-/
import Derived.Test.YtcgnehacihjnkaaCodeZ
import Derived.Test.YtcgnehacihjnkaaCoB
import Derived.Test.YtcgnehacihjnkaaPlR
import Derived.Test.YtcgnehacihjnkaaNetH
namespace Go.Proofs.Ytcgnehacihjnkaa
open Go.RowKit Go.Lift Plain
set_option linter.unusedSimpArgs false
set_option linter.unusedVariables false
set_option maxRecDepth 100000

def rho (fs ts : List Int) (l : Int) : Int := ren1 l fs ts
theorem relL_map (fs ts ls : List Int) : relL fs ts ls = ls.map (rho fs ts) := rfl
theorem relT_one (fs ts : List Int) (t : Ten) : tcA [mapT (rho fs ts) t] = [.tr (.sl t.labels.length (dv (relL fs ts t.labels))), .tr (.sl t.dims.length (dv t.dims)), .tr (.sl t.data.length (dv t.data))] := by
  rw [tcA_one]
  simp only [mapT, relL_map, ints, List.length_map]
open Classical in
noncomputable def reB (N : Net) (fs ts : List Int) : Bool := netOk N && decide (fs.length = ts.length) && decide (distL ((labelsL N).map (rho fs ts)) ∧ netOk (mapNet (rho fs ts) N) = true)
noncomputable def reN (N : Net) (fs ts : List Int) : Net := bif reB N fs ts then mapNet (rho fs ts) N else zeroN
theorem reB_no {N : Net} {fs ts : List Int} (h : ¬ (netOk N = true ∧ fs.length = ts.length ∧ distL ((labelsL N).map (rho fs ts)) ∧ netOk (mapNet (rho fs ts) N) = true)) : reB N fs ts = false := by
  cases e : reB N fs ts
  · rfl
  · simp only [reB, Bool.and_eq_true, decide_eq_true_eq] at e
    exact absurd ⟨e.1.1, e.1.2, e.2⟩ h
theorem reB_yes {N : Net} {fs ts : List Int} (h1 : netOk N = true) (h2 : fs.length = ts.length) (h3 : distL ((labelsL N).map (rho fs ts))) (h4 : netOk (mapNet (rho fs ts) N) = true) : reB N fs ts = true := by
  simp only [reB, Bool.and_eq_true, decide_eq_true_eq]
  exact ⟨⟨h1, h2⟩, h3, h4⟩
theorem reN0_sz {N : Net} {fs ts : List Int} (h : NSz 1048576 N) (ht : Sz 1048576 ts) (hl : fs.length = ts.length) : NSz 1048576 (mapNet (rho fs ts) N) := by
  refine ⟨h.k, h.p, h.n, by simpa [mapNet] using h.l, fun t ht' => ?_, relL_sz h.o ht.wf hl⟩
  obtain ⟨u, hu, rfl⟩ := List.mem_map.1 (show t ∈ N.ts.map (mapT (rho fs ts)) from ht')
  have hs := h.t u hu
  exact ⟨relL_sz hs.l ht.wf hl, hs.d, hs.x⟩
theorem reN_sz {N : Net} {fs ts : List Int} (h : NSz 1048576 N) (ht : Sz 1048576 ts) : NSz 1048576 (reN N fs ts) := by
  unfold reN
  cases e : reB N fs ts
  · exact zeroN_sz
  · simp only [reB, Bool.and_eq_true, decide_eq_true_eq] at e
    exact reN0_sz h ht e.1.2
theorem reN_tot {N : Net} {fs ts : List Int} (h : NSz 1048576 N) (ht : Sz 1048576 ts) : totT (reN N fs ts).ts + (reN N fs ts).os.length ≤ 100000000 := by
  have hsz := reN_sz (fs := fs) h ht
  have ho := hsz.o.len
  unfold reN at *
  cases e : reB N fs ts
  · simp [zeroN, totT]
  · rw [e] at hsz ho
    simp only [reB, Bool.and_eq_true, decide_eq_true_eq] at e
    have := totT_le (n := 12) (by simpa [mapNet] using (netOk_iff.1 e.1.1).2.1) hsz.t
    simp only [cond_true] at ho this ⊢
    omega
attribute [go_sem] relL_len
theorem row3_mid1 {A B : List AV} {q : Nat} {x y z : AV} (h : A.length = q) : ((A ++ [x, y, z] ++ B).drop q).take 1 = [x] := by subst h; simp
theorem row3_put {A B : List AV} {q : Nat} {x y z v : AV} (h : A.length = q) : (A ++ [x, y, z] ++ B).take q ++ [v] ++ (A ++ [x, y, z] ++ B).drop (q + 1) = A ++ [v, y, z] ++ B := by subst h; simp
theorem row3_set {A B : List AV} {q : Nat} {x y z v : AV} (h : A.length = q) : (A ++ [x, y, z] ++ B).set q v = A ++ [v, y, z] ++ B := by subst h; simp
set_option maxHeartbeats 1600000 in
theorem iRelabelNetwork_d {N : Net} {fs ts : List Int} (h : NSz 1048576 N) (hf : Sz 1048576 fs) (ht : Sz 1048576 ts) :
    Does Try.prog 27 [netA N, .d (ints fs), .d (ints ts)] [] (.tup [ownN 0 (reN N fs ts), .d (.bool (reB N fs ts))]) (stoN (reN N fs ts)) := by
  have hnl := h.l
  have hfl := hf.len
  have htl := ht.len
  have hol := h.o.len
  have hLs := labelsL_sz N
  have hLl := hLs.len
  (refine spec_of (by kernel_rfl) Try.func27 k_impl_RelabelNetwork (fnOk (Nat.le_of_ble_eq_true rfl) ?_); unfold C_impl_RelabelNetwork)
  (simp only [Nat.reduceSub, List.length_cons, List.length_nil, Nat.reduceAdd, ch_init1, ch_init2, ch_init3, ch_init4, ch_init5, ch_init6, ch_init7, ch_init8]; try simp only [ch_rep]); (simp only [go_sem, seval, reduceCtorEq, List.replicate])
  (refine ti_call (iNetworkOk_d h) ?_ ?_ ?_; (focus (simp only [go_sem, seval, reduceCtorEq]; done)); (first | rfl | (focus (simp only [go_sem]; done))))
  cases hok : netOk N
  · have e : reB N fs ts = false := reB_no (by simp [hok])
    simp only [go_sem, seval, reduceCtorEq, hok, e, reN, cond_false]
    refine FnEnd.wk (Wk.trans (Wk.nilS 1 3 3 _ _ _ rfl rfl) (Wk.nilS 1 4 1 _ _ _ rfl rfl)) ?_
    (refine FnEnd.mk (Nat.le_of_ble_eq_true rfl) rfl (of_decide_eq_true rfl) ?_ ?_ <;> try simp only [go_sem, seval, reduceCtorEq])
  have hax := netOk_ax hok
  by_cases h2 : fs.length = ts.length
  rotate_left
  · have e : reB N fs ts = false := reB_no (by simp [h2])
    have h2' : ((fs.length : Int) != ts.length) = true := by simp; omega
    simp only [go_sem, seval, reduceCtorEq, hok, h2', e, reN, cond_false]
    refine FnEnd.wk (Wk.trans (Wk.nilS 1 3 3 _ _ _ rfl rfl) (Wk.nilS 1 4 1 _ _ _ rfl rfl)) ?_
    (refine FnEnd.mk (Nat.le_of_ble_eq_true rfl) rfl (of_decide_eq_true rfl) ?_ ?_ <;> try simp only [go_sem, seval, reduceCtorEq])
  have h2' : ((fs.length : Int) != ts.length) = false := by simp [h2]
  simp only [go_sem, seval, reduceCtorEq, hok, h2']
  (refine ti_call (iLabelsOf_d h) ?_ ?_ ?_; (focus (simp only [go_sem, seval, reduceCtorEq]; done)); (first | rfl | (focus (simp only [go_sem]; done))))
  simp only [go_sem, seval, reduceCtorEq]
  generalize hL : labelsL N = L at *
  generalize hX : L.map (rho fs ts) = X at *
  have hXl : X.length = L.length := by rw [← hX, List.length_map]
  (refine wpN_lwk (Wk.nilE 8 1 _ _ rfl) ?_; simp only [go_sem, seval, reduceCtorEq])
  refine wpN_lpI (L.length) [false, false, false, false, false, false, false, true, false, false, true, true, false, false, false, false, false, false, false, false, false, false, false, false, false, false, false, false, false, false, false, false, false, false, true, true, true, true, true, true, true, true, true, true, true, true, true, true, true, true, false, false, false, false, false, false, false, false, false, false, false, false, false, false, false, false, false, false, false, false, false, false, false, false, false, false, false, false, false, false, false, false, false, false, false, false, false, false, false, false, false, false, false, false, false, false, false, false, false] (fun k => ∀ i, (hi : i < X.length) → i < k → X[i] ∉ X.take i) (fun k => [(8, .own 3 0 (X.take k).length), (33, .d (.int k))]) (fun k => [(3, iv (X.take k))]) (fun _ => by (simp only [go_sem, seval, reduceCtorEq, dropF_ch, dropF_cons, dropF_nil, cut, cond_true, cond_false]); first | done | rfl) (fun _ => by (simp only [go_sem, seval, reduceCtorEq, cut]); first | done | rfl) (fun i _ hi => absurd hi (Nat.not_lt_zero i)) (Nat.le_of_ble_eq_true rfl) (by first | (simp only [go_sem, seval, reduceCtorEq, dropF_ch, dropF_cons, dropF_nil, cut, cond_true, cond_false, Int.natCast_zero, Int.natCast_add, Int.natCast_one, List.take_zero, iv_nil]; done) | rfl | (simp only [go_sem, seval, reduceCtorEq, dropF_ch, dropF_cons, dropF_nil, cut, cond_true, cond_false, Int.natCast_zero, Int.natCast_add, Int.natCast_one, List.take_zero, iv_nil]; rfl)) (by first | (simp only [go_sem, seval, reduceCtorEq, dropF_ch, dropF_cons, dropF_nil, cut, cond_true, cond_false, Int.natCast_zero, Int.natCast_add, Int.natCast_one, List.take_zero, iv_nil]; done) | rfl | (simp only [go_sem, seval, reduceCtorEq, dropF_ch, dropF_cons, dropF_nil, cut, cond_true, cond_false, Int.natCast_zero, Int.natCast_add, Int.natCast_one, List.take_zero, iv_nil]; rfl)) fun k hk hi => ?_
  unfold L3_impl_RelabelNetwork
  by_cases hlt : k < L.length
  · have d1 : (k : Int) < L.length := by omega
    have g : L[k]? = some L[k] := List.getElem?_eq_getElem hlt
    have hXk : k < X.length := by omega
    have eXk : X[k] = ren1 L[k] fs ts := by subst hX; rw [List.getElem_map]; rfl
    have htk : (X.take k).length = k := by rw [List.length_take]; omega
    have htt : List.take k (List.take k X) = List.take k X := by rw [List.take_take, Nat.min_self]
    have htn : X.take (k + 1) = X.take k ++ [ren1 L[k] fs ts] := by rw [take_ss hXk, eXk]
    simp (disch := omega) only [go_sem, seval, reduceCtorEq, d1, g]
    (refine ti_call (renamed_d (x := L[k]) (fs := fs) (ts := ts) (by omega) h2) ?_ ?_ ?_; (focus (simp only [go_sem, seval, reduceCtorEq]; done)); (first | rfl | (focus (simp only [go_sem]; done))))
    simp (disch := omega) only [go_sem, seval, reduceCtorEq]
    (refine ti_call (hasInt_d (xs := X.take k) (x := ren1 L[k] fs ts) (by omega)) ?_ ?_ ?_; (focus (simp only [go_sem, seval, reduceCtorEq, htk, htt]; done)); (first | rfl | (focus (simp only [go_sem]; done))))
    cases hh : has (X.take k) (ren1 L[k] fs ts)
    · have hI : ∀ i, (hi : i < X.length) → i < k + 1 → X[i] ∉ X.take i := fun j hj hjk => by
        by_cases e : j = k
        · subst e
          rw [eXk]
          exact has_false.1 hh
        · exact hi j hj (by omega)
      simp (disch := omega) only [go_sem, seval, reduceCtorEq, hh]
      (repeat (refine And.intro (by omega) ?_))
      (refine NextI.drop [false, false, false, false, false, false, false, true, false, false, true, true, false, false, false, false, false, false, false, false, false, false, false, false, false, false, false, false, false, false, false, false, false, false, true, true, true, true, true, true, true, true, true, true, true, true, true, true, true, true, false, false, false, false, false, false, false, false, false, false, false, false, false, false, false, false, false, false, false, false, false, false, false, false, false, false, false, false, false, false, false, false, false, false, false, false, false, false, false, false, false, false, false, false, false, false, false, false, false] (by omega) (hI) (Nat.le_of_ble_eq_true rfl) ?_ ?_ <;> first | (simp only [go_sem, seval, reduceCtorEq, dropF_ch, dropF_cons, dropF_nil, cut, cond_true, cond_false, Int.natCast_zero, Int.natCast_add, Int.natCast_one, htn, List.length_append]; done) | rfl | (simp only [go_sem, seval, reduceCtorEq, dropF_ch, dropF_cons, dropF_nil, cut, cond_true, cond_false, Int.natCast_zero, Int.natCast_add, Int.natCast_one, htn, List.length_append]; rfl) | skip)
    · have e : reB N fs ts = false := reB_no fun x => by
        have := x.2.2.1
        rw [hL, hX] at this
        have := this k hXk
        rw [eXk] at this
        exact this (has_true.1 hh)
      simp (disch := omega) only [go_sem, seval, reduceCtorEq, hh, e, reN, cond_false]
      refine FnEnd.wk (Wk.trans (Wk.nilS 1 3 3 _ _ _ rfl rfl) (Wk.nilS 1 4 1 _ _ _ rfl rfl)) ?_
      (refine FnEnd.mk (Nat.le_of_ble_eq_true rfl) rfl (of_decide_eq_true rfl) ?_ ?_ <;> try simp only [go_sem, seval, reduceCtorEq])
  have d1 : ¬ (k : Int) < L.length := by omega
  obtain rfl : k = L.length := by omega
  have hd : distL X := fun i hi' => hi i hi' (by omega)
  clear hi
  simp (disch := omega) only [go_sem, seval, reduceCtorEq, d1]
  (refine ti_call (copyNetwork_d h) ?_ ?_ ?_; (focus (simp only [go_sem, seval, reduceCtorEq]; done)); (first | rfl | (focus (simp only [go_sem]; done))))
  simp only [go_sem, seval, reduceCtorEq]
  refine wpN_lp (N.ts.length) [false, false, false, false, false, false, false, false, false, false, false, false, false, false, true, true, true, false, false, false, false, false, false, false, false, false, false, false, false, false, false, false, false, false, false, false, false, false, false, false, false, false, false, false, false, false, false, false, false, false, false, false, false, false, false, false, true, true, true, true, true, true, true, true, true, true, true, true, true, true, true, true, true, true, true, true, true, false, false, false, false, false, false, false, false, false, false, false, false, false, false, false, false, false, false, false, false, false, false] (fun k => [(55, .d (.int k))]) (fun k => [(4, mapTo (mapT (rho fs ts)) N.ts k)]) (fun _ => by (simp only [go_sem, seval, reduceCtorEq, dropF_ch, dropF_cons, dropF_nil, cut, cond_true, cond_false]); first | done | rfl) (fun _ => by (simp only [go_sem, seval, reduceCtorEq, cut]); first | done | rfl) (Nat.le_of_ble_eq_true rfl) (by first | (simp only [go_sem, seval, reduceCtorEq, dropF_ch, dropF_cons, dropF_nil, cut, cond_true, cond_false, Int.natCast_zero, Int.natCast_add, Int.natCast_one, mapTo_zero]; done) | rfl | (simp only [go_sem, seval, reduceCtorEq, dropF_ch, dropF_cons, dropF_nil, cut, cond_true, cond_false, Int.natCast_zero, Int.natCast_add, Int.natCast_one, mapTo_zero]; rfl)) (by first | (simp only [go_sem, seval, reduceCtorEq, dropF_ch, dropF_cons, dropF_nil, cut, cond_true, cond_false, Int.natCast_zero, Int.natCast_add, Int.natCast_one, mapTo_zero]; done) | rfl | (simp only [go_sem, seval, reduceCtorEq, dropF_ch, dropF_cons, dropF_nil, cut, cond_true, cond_false, Int.natCast_zero, Int.natCast_add, Int.natCast_one, mapTo_zero]; rfl)) fun k hk => ?_
  unfold L2_impl_RelabelNetwork
  by_cases hlt : k < N.ts.length
  · have d2 : (k : Int) < N.ts.length := by omega
    have hst := h.t N.ts[k] (List.getElem_mem hlt)
    have hll := hst.l.len
    have hA := map3_len (f := mapT (rho fs ts)) hk
    have hr := relL_len fs ts N.ts[k].labels
    simp (disch := omega) only [go_sem, seval, reduceCtorEq, d2, mapTo_split hlt, tcA_one]
    refine GH.mk (Wk.sp3g 4 3 (k * 3) true (tcA ((N.ts.take k).map (mapT (rho fs ts)))) (tcA (N.ts.drop (k + 1))) (Nat.le_of_ble_eq_true rfl) rfl hA (fun _ _ _ _ => by simp only [go_sem, seval, reduceCtorEq, mapL_spG_iv, mapL_spG_tcA, mapL_two]) (fun _ _ _ _ => by simp only [mapL_ch, mapL, mapA, spG])) ?_
    simp (disch := omega) only [go_sem, seval, reduceCtorEq, dv_cellT, d2, row3_take hA, row3_drop hA, row3_mid hA]
    refine And.intro (by rw [row3_len, hA]; omega) ?_
    refine wpN_lp (N.ts[k].labels.length) [false, false, false, false, false, false, false, false, false, false, false, false, false, false, false, true, true, false, false, false, false, false, false, false, false, false, false, false, false, false, false, false, false, false, false, false, false, false, false, false, false, false, false, false, false, false, false, false, false, false, false, false, false, false, false, false, false, false, false, false, false, false, false, true, true, true, true, true, true, true, true, true, true, true, true, true, false, false, false, false, false, false, false, false, false, false, false, false, false, false, false, false, false, false, false, false, false, false, false] (fun q => [(62, .d (.int q))]) (fun q => [(7, iv (mix (relL fs ts N.ts[k].labels) N.ts[k].labels q))]) (fun _ => by (simp only [go_sem, seval, reduceCtorEq, dropF_ch, dropF_cons, dropF_nil, cut, cond_true, cond_false]); first | done | rfl) (fun _ => by (simp only [go_sem, seval, reduceCtorEq, cut]); first | done | rfl) (Nat.le_of_ble_eq_true rfl) (by first | (simp only [go_sem, seval, reduceCtorEq, dropF_ch, dropF_cons, dropF_nil, cut, cond_true, cond_false, Int.natCast_zero, Int.natCast_add, Int.natCast_one, mix_zero]; done) | rfl | (simp only [go_sem, seval, reduceCtorEq, dropF_ch, dropF_cons, dropF_nil, cut, cond_true, cond_false, Int.natCast_zero, Int.natCast_add, Int.natCast_one, mix_zero]; rfl)) (by first | (simp only [go_sem, seval, reduceCtorEq, dropF_ch, dropF_cons, dropF_nil, cut, cond_true, cond_false, Int.natCast_zero, Int.natCast_add, Int.natCast_one, mix_zero]; done) | rfl | (simp only [go_sem, seval, reduceCtorEq, dropF_ch, dropF_cons, dropF_nil, cut, cond_true, cond_false, Int.natCast_zero, Int.natCast_add, Int.natCast_one, mix_zero]; rfl)) fun q hq => ?_
    unfold L1_impl_RelabelNetwork
    by_cases hqt : q < N.ts[k].labels.length
    · have d3 : (q : Int) < N.ts[k].labels.length := by omega
      have hx : (mix (relL fs ts N.ts[k].labels) N.ts[k].labels q)[q]? = some N.ts[k].labels[q] := by rw [mix_get hr, if_neg (Nat.lt_irrefl _)]; exact List.getElem?_eq_getElem hqt
      have hmn := mix_next hr (relL_get (fs := fs) (ts := ts) hqt)
      simp (disch := omega) only [go_sem, seval, reduceCtorEq, d3, hx]
      (refine gi_call (renamed_d (x := N.ts[k].labels[q]) (fs := fs) (ts := ts) (by omega) h2) ?_ ?_ ?_; (focus (simp only [go_sem, seval, reduceCtorEq]; done)); (first | rfl | (focus (simp only [go_sem]; done))))
      simp (disch := omega) only [go_sem, seval, reduceCtorEq, d3]
      refine ⟨by rw [mix_len hr]; omega, ?_⟩
      (refine Next.drop [false, false, false, false, false, false, false, false, false, false, false, false, false, false, false, true, true, false, false, false, false, false, false, false, false, false, false, false, false, false, false, false, false, false, false, false, false, false, false, false, false, false, false, false, false, false, false, false, false, false, false, false, false, false, false, false, false, false, false, false, false, false, false, true, true, true, true, true, true, true, true, true, true, true, true, true, false, false, false, false, false, false, false, false, false, false, false, false, false, false, false, false, false, false, false, false, false, false, false] (by omega) (Nat.le_of_ble_eq_true rfl) ?_ ?_ <;> first | (simp only [go_sem, seval, reduceCtorEq, dropF_ch, dropF_cons, dropF_nil, cut, cond_true, cond_false, Int.natCast_zero, Int.natCast_add, Int.natCast_one, hmn]; done) | rfl | (simp only [go_sem, seval, reduceCtorEq, dropF_ch, dropF_cons, dropF_nil, cut, cond_true, cond_false, Int.natCast_zero, Int.natCast_add, Int.natCast_one, hmn]; rfl) | skip)
    · have d3 : ¬ (q : Int) < N.ts[k].labels.length := by omega
      obtain rfl : q = N.ts[k].labels.length := by omega
      simp (disch := omega) only [go_sem, seval, reduceCtorEq, d3, mix_full (l := relL fs ts N.ts[k].labels) (r := N.ts[k].labels) (k := N.ts[k].labels.length) (by omega) (by omega)]
      (refine Next.mk (by omega) (Wk.trans (Wk.drG [7, 8, 9] 7 (Nat.le_of_ble_eq_true rfl) (Nat.le_of_ble_eq_true rfl) (of_decide_eq_true rfl) (of_decide_eq_true rfl)) ?_)); (simp only [go_sem, seval, reduceCtorEq, dropG_ch, dropG_cons, dropG_nil, cond_true, cond_false, Int.natCast_zero, Int.natCast_add, Int.natCast_one, mapTo_next hlt, relT_one]); (refine Wk.eq (Wk.ad3 [false, false, false, false, false, false, false, false, false, false, false, false, false, false, true, true, true, false, false, false, false, false, false, false, false, false, false, false, false, false, false, false, false, false, false, false, false, false, false, false, false, false, false, false, false, false, false, false, false, false, false, false, false, false, false, false, true, true, true, true, true, true, true, true, true, true, true, true, true, true, true, true, true, true, true, true, true, false, false, false, false, false, false, false, false, false, false, false, false, false, false, false, false, false, false, false, false, false, false] 4 3 (k * 3) true (τ := [_, _, _, _, _, _, _]) (Nat.le_of_ble_eq_true rfl) rfl (hA) rfl (treL_iv _) (treL_iv _) (treL_iv _) (by simp only [go_sem, seval, reduceCtorEq]) (by simp only [go_sem, seval, reduceCtorEq]) (by simp only [go_sem, seval, reduceCtorEq]) (fun _ => rnL_iv _) (fun _ => rnL_iv _)) ?_ ?_ <;> first | (simp only [go_sem, seval, reduceCtorEq, dropF_ch, dropF_cons, dropF_nil, cut, cond_true, cond_false, Int.natCast_zero, Int.natCast_add, Int.natCast_one, mapTo_next hlt, relT_one]; done) | rfl | (simp only [go_sem, seval, reduceCtorEq, dropF_ch, dropF_cons, dropF_nil, cut, cond_true, cond_false, Int.natCast_zero, Int.natCast_add, Int.natCast_one, mapTo_next hlt, relT_one]; rfl) | skip)
  have d2 : ¬ (k : Int) < N.ts.length := by omega
  obtain rfl : k = N.ts.length := by omega
  simp (disch := omega) only [go_sem, seval, reduceCtorEq, d2, mapTo_all (Nat.le_refl _)]
  have hro := relL_len fs ts N.os
  refine wpN_lp (N.os.length) [false, false, false, false, false, false, false, false, false, false, false, false, false, false, false, false, false, true, true, false, false, false, false, false, false, false, false, false, false, false, false, false, false, false, false, false, false, false, false, false, false, false, false, false, false, false, false, false, false, false, false, false, false, false, false, false, false, false, false, false, false, false, false, false, false, false, false, false, false, false, false, false, false, false, false, false, false, false, false, false, false, true, true, true, true, true, true, true, true, true, true, true, true, true, false, false, false, false, false] (fun q => [(80, .d (.int q))]) (fun q => [(5, iv (mix (relL fs ts N.os) N.os q))]) (fun _ => by (simp only [go_sem, seval, reduceCtorEq, dropF_ch, dropF_cons, dropF_nil, cut, cond_true, cond_false]); first | done | rfl) (fun _ => by (simp only [go_sem, seval, reduceCtorEq, cut]); first | done | rfl) (Nat.le_of_ble_eq_true rfl) (by first | (simp only [go_sem, seval, reduceCtorEq, dropF_ch, dropF_cons, dropF_nil, cut, cond_true, cond_false, Int.natCast_zero, Int.natCast_add, Int.natCast_one, mix_zero]; done) | rfl | (simp only [go_sem, seval, reduceCtorEq, dropF_ch, dropF_cons, dropF_nil, cut, cond_true, cond_false, Int.natCast_zero, Int.natCast_add, Int.natCast_one, mix_zero]; rfl)) (by first | (simp only [go_sem, seval, reduceCtorEq, dropF_ch, dropF_cons, dropF_nil, cut, cond_true, cond_false, Int.natCast_zero, Int.natCast_add, Int.natCast_one, mix_zero]; done) | rfl | (simp only [go_sem, seval, reduceCtorEq, dropF_ch, dropF_cons, dropF_nil, cut, cond_true, cond_false, Int.natCast_zero, Int.natCast_add, Int.natCast_one, mix_zero]; rfl)) fun q hq => ?_
  unfold L0_impl_RelabelNetwork
  by_cases hqt : q < N.os.length
  · have d3 : (q : Int) < N.os.length := by omega
    have hx : (mix (relL fs ts N.os) N.os q)[q]? = some N.os[q] := by rw [mix_get hro, if_neg (Nat.lt_irrefl _)]; exact List.getElem?_eq_getElem hqt
    have hmn := mix_next hro (relL_get (fs := fs) (ts := ts) hqt)
    simp (disch := omega) only [go_sem, seval, reduceCtorEq, d3, hx]
    (refine gi_call (renamed_d (x := N.os[q]) (fs := fs) (ts := ts) (by omega) h2) ?_ ?_ ?_; (focus (simp only [go_sem, seval, reduceCtorEq]; done)); (first | rfl | (focus (simp only [go_sem]; done))))
    simp (disch := omega) only [go_sem, seval, reduceCtorEq, d3]
    refine ⟨by rw [mix_len hro]; omega, ?_⟩
    (refine Next.drop [false, false, false, false, false, false, false, false, false, false, false, false, false, false, false, false, false, true, true, false, false, false, false, false, false, false, false, false, false, false, false, false, false, false, false, false, false, false, false, false, false, false, false, false, false, false, false, false, false, false, false, false, false, false, false, false, false, false, false, false, false, false, false, false, false, false, false, false, false, false, false, false, false, false, false, false, false, false, false, false, false, true, true, true, true, true, true, true, true, true, true, true, true, true, false, false, false, false, false] (by omega) (Nat.le_of_ble_eq_true rfl) ?_ ?_ <;> first | (simp only [go_sem, seval, reduceCtorEq, dropF_ch, dropF_cons, dropF_nil, cut, cond_true, cond_false, Int.natCast_zero, Int.natCast_add, Int.natCast_one, hmn]; done) | rfl | (simp only [go_sem, seval, reduceCtorEq, dropF_ch, dropF_cons, dropF_nil, cut, cond_true, cond_false, Int.natCast_zero, Int.natCast_add, Int.natCast_one, hmn]; rfl) | skip)
  have d3 : ¬ (q : Int) < N.os.length := by omega
  obtain rfl : q = N.os.length := by omega
  have hsz := reN0_sz h ht h2
  simp (disch := omega) only [go_sem, seval, reduceCtorEq, d3, mix_full (l := relL fs ts N.os) (r := N.os) (k := N.os.length) (by omega) (by omega)]
  have htk3 : List.take (N.ts.length * 3) (tcA (N.ts.map (mapT (rho fs ts)))) = tcA (N.ts.map (mapT (rho fs ts))) := List.take_of_length_le (by rw [tcA_len, List.length_map]; exact Nat.le_refl _)
  have htko := relL_take fs ts N.os
  (refine ti_call (iNetworkOk_d (N := ⟨N.k, N.p, N.n, N.ts.map (mapT (rho fs ts)), relL fs ts N.os⟩) hsz) ?_ ?_ ?_; (focus (simp only [go_sem, seval, reduceCtorEq, List.length_map, htk3, htko]; done)); (first | rfl | (focus (simp only [go_sem]; done))))
  cases h4 : netOk ⟨N.k, N.p, N.n, N.ts.map (mapT (rho fs ts)), relL fs ts N.os⟩
  · have e : reB N fs ts = false := reB_no fun x => by
      have h4' : netOk (mapNet (rho fs ts) N) = false := h4
      have := x.2.2.2
      rw [h4'] at this
      simp at this
    simp only [go_sem, seval, reduceCtorEq, h4, e, reN, cond_false]
    refine FnEnd.wk (Wk.trans (Wk.nilS 1 3 3 _ _ _ rfl rfl) (Wk.nilS 1 4 1 _ _ _ rfl rfl)) ?_
    (refine FnEnd.mk (Nat.le_of_ble_eq_true rfl) rfl (of_decide_eq_true rfl) ?_ ?_ <;> try simp only [go_sem, seval, reduceCtorEq])
  · have hyes : reB N fs ts = true := reB_yes hok h2 (by rw [hL, hX]; exact hd) h4
    simp only [go_sem, seval, reduceCtorEq, h4, hyes, reN, cond_true, mapNet, List.length_map, relL_map]
    (refine FnEnd.mk (Nat.le_of_ble_eq_true rfl) rfl (of_decide_eq_true rfl) ?_ ?_ <;> try simp only [go_sem, seval, reduceCtorEq])
set_option maxHeartbeats 1600000 in
theorem sRelabelNetwork_d {N : Net} {fs ts : List Int} (h : NSz 1048576 N) (hf : Sz 1048576 fs) (ht : Sz 1048576 ts) :
    Does Try.prog 26 [netA N, .d (ints fs), .d (ints ts)] [] (.tup [ownN 0 (reN N fs ts), .d (.bool (reB N fs ts))]) (stoN (reN N fs ts)) := by
  have hnl := h.l
  have hfl := hf.len
  have htl := ht.len
  have hol := h.o.len
  have hLs := labelsL_sz N
  have hLl := hLs.len
  (refine spec_of (by kernel_rfl) Try.func26 k_spec_RelabelNetwork (fnOk (Nat.le_of_ble_eq_true rfl) ?_); unfold C_spec_RelabelNetwork)
  (simp only [Nat.reduceSub, List.length_cons, List.length_nil, Nat.reduceAdd, ch_init1, ch_init2, ch_init3, ch_init4, ch_init5, ch_init6, ch_init7, ch_init8]; try simp only [ch_rep]); (simp only [go_sem, seval, reduceCtorEq, List.replicate])
  (refine ti_call (sNetworkOk_d h) ?_ ?_ ?_; (focus (simp only [go_sem, seval, reduceCtorEq]; done)); (first | rfl | (focus (simp only [go_sem]; done))))
  cases hok : netOk N
  · have e : reB N fs ts = false := reB_no (by simp [hok])
    simp only [go_sem, seval, reduceCtorEq, hok, e, reN, cond_false]
    refine FnEnd.wk (Wk.trans (Wk.nilS 1 3 3 _ _ _ rfl rfl) (Wk.nilS 1 4 1 _ _ _ rfl rfl)) ?_
    (refine FnEnd.mk (Nat.le_of_ble_eq_true rfl) rfl (of_decide_eq_true rfl) ?_ ?_ <;> try simp only [go_sem, seval, reduceCtorEq])
  have hax := netOk_ax hok
  by_cases h2 : fs.length = ts.length
  rotate_left
  · have e : reB N fs ts = false := reB_no (by simp [h2])
    have h2' : ((fs.length : Int) != ts.length) = true := by simp; omega
    simp only [go_sem, seval, reduceCtorEq, hok, h2', e, reN, cond_false]
    refine FnEnd.wk (Wk.trans (Wk.nilS 1 3 3 _ _ _ rfl rfl) (Wk.nilS 1 4 1 _ _ _ rfl rfl)) ?_
    (refine FnEnd.mk (Nat.le_of_ble_eq_true rfl) rfl (of_decide_eq_true rfl) ?_ ?_ <;> try simp only [go_sem, seval, reduceCtorEq])
  have h2' : ((fs.length : Int) != ts.length) = false := by simp [h2]
  simp only [go_sem, seval, reduceCtorEq, hok, h2']
  (refine ti_call (l12Labels_d (ts := N.ts) h.l h.t hax) ?_ ?_ ?_; (focus (simp only [go_sem, seval, reduceCtorEq]; done)); (first | rfl | (focus (simp only [go_sem]; done))))
  have hLe : pickTo (labP N.ts) 100 = labelsL N := by rw [labelsL, if_pos hok]
  simp only [go_sem, seval, reduceCtorEq, hLe]
  generalize hL : labelsL N = L at *
  (refine ti_call (l06Names_d (ls := L) (fs := fs) (ts := ts) hLl (by omega) h2) ?_ ?_ ?_; (focus (simp only [go_sem, seval, reduceCtorEq]; done)); (first | rfl | (focus (simp only [go_sem]; done))))
  simp only [go_sem, seval, reduceCtorEq, relL_map]
  generalize hX : L.map (rho fs ts) = X at *
  have hXl : X.length = L.length := by rw [← hX, List.length_map]
  refine wpN_lpI (L.length) [false, false, false, false, false, false, false, true, false, false, true, true, false, false, false, false, false, false, false, false, false, false, false, false, false, false, false, false, false, false, false, false, false, false, false, false, true, true, true, true, true, true, true, true, true, true, true, true, true, true, true, true, true, false, false, false, false, false, false, false, false, false, false, false, false, false, false, false, false, false, false, false, false, false, false, false, false, false, false, false, false] (fun k => ∀ i, (hi : i < X.length) → i < k → (0 ≤ X[i] ∧ X[i] ≤ 99) ∧ X[i] ∉ X.take i) (fun k => [(35, .d (.int k))]) (fun k => []) (fun _ => by (simp only [go_sem, seval, reduceCtorEq, dropF_ch, dropF_cons, dropF_nil, cut, cond_true, cond_false]); first | done | rfl) (fun _ => by (simp only [go_sem, seval, reduceCtorEq, cut]); first | done | rfl) (fun i _ hi => absurd hi (Nat.not_lt_zero i)) (Nat.le_of_ble_eq_true rfl) (by first | (simp only [go_sem, seval, reduceCtorEq, dropF_ch, dropF_cons, dropF_nil, cut, cond_true, cond_false, Int.natCast_zero, Int.natCast_add, Int.natCast_one]; done) | rfl | (simp only [go_sem, seval, reduceCtorEq, dropF_ch, dropF_cons, dropF_nil, cut, cond_true, cond_false, Int.natCast_zero, Int.natCast_add, Int.natCast_one]; rfl)) (by first | (simp only [go_sem, seval, reduceCtorEq, dropF_ch, dropF_cons, dropF_nil, cut, cond_true, cond_false, Int.natCast_zero, Int.natCast_add, Int.natCast_one]; done) | rfl | (simp only [go_sem, seval, reduceCtorEq, dropF_ch, dropF_cons, dropF_nil, cut, cond_true, cond_false, Int.natCast_zero, Int.natCast_add, Int.natCast_one]; rfl)) fun k hk hi => ?_
  unfold L1_spec_RelabelNetwork
  by_cases hlt : k < L.length
  · have d1 : (k : Int) < L.length := by omega
    have hXk : k < X.length := by omega
    have g : X[k]? = some X[k] := List.getElem?_eq_getElem hXk
    have htk : (X.take k).length = k := by rw [List.length_take]; omega
    have hbad : ¬ ((0 ≤ X[k] ∧ X[k] ≤ 99) ∧ X[k] ∉ X.take k) → reB N fs ts = false := fun hb => reB_no fun x => by
      subst hX
      subst hL
      exact map_no hok hXk hb x.2.2
    simp (disch := omega) only [go_sem, seval, reduceCtorEq, d1, g]
    (refine ti_call (l01In_d X[k] 0 99) ?_ ?_ ?_; (focus (simp only [go_sem, seval, reduceCtorEq]; done)); (first | rfl | (focus (simp only [go_sem]; done))))
    by_cases b1 : 0 ≤ X[k] ∧ X[k] ≤ 99
    rotate_left
    · have e := hbad fun x => b1 x.1
      have c : decide (0 ≤ X[k] ∧ X[k] ≤ 99) = false := decide_eq_false b1
      simp (disch := omega) only [go_sem, seval, reduceCtorEq, c, e, reN, cond_false]
      refine FnEnd.wk (Wk.trans (Wk.nilS 1 3 3 _ _ _ rfl rfl) (Wk.nilS 1 4 1 _ _ _ rfl rfl)) ?_
      (refine FnEnd.mk (Nat.le_of_ble_eq_true rfl) rfl (of_decide_eq_true rfl) ?_ ?_ <;> try simp only [go_sem, seval, reduceCtorEq])
    have c : decide (0 ≤ X[k] ∧ X[k] ≤ 99) = true := decide_eq_true b1
    simp (disch := omega) only [go_sem, seval, reduceCtorEq, c]
    (repeat (refine And.intro (by omega) ?_))
    (refine ti_call (l05Find_d (xs := X.take k) (x := X[k]) (by omega)) ?_ ?_ ?_; (focus (simp only [go_sem, seval, reduceCtorEq, htk, Int.sub_zero, true_or, if_true]; done)); (first | rfl | (focus (simp only [go_sem]; done))))
    by_cases hm2 : X[k] ∈ X.take k
    rotate_left
    · have hI : ∀ i, (hi : i < X.length) → i < k + 1 → (0 ≤ X[i] ∧ X[i] ≤ 99) ∧ X[i] ∉ X.take i := fun j hj hjk => by
        by_cases e : j = k
        · subst e
          exact ⟨b1, hm2⟩
        · exact hi j hj (by omega)
      have c2 : ¬ place (X.take k) X[k] ≥ 0 := by have := place_neg.2 hm2; omega
      simp (disch := omega) only [go_sem, seval, reduceCtorEq, c2]
      (refine NextI.drop [false, false, false, false, false, false, false, true, false, false, true, true, false, false, false, false, false, false, false, false, false, false, false, false, false, false, false, false, false, false, false, false, false, false, false, false, true, true, true, true, true, true, true, true, true, true, true, true, true, true, true, true, true, false, false, false, false, false, false, false, false, false, false, false, false, false, false, false, false, false, false, false, false, false, false, false, false, false, false, false, false] (by omega) (hI) (Nat.le_of_ble_eq_true rfl) ?_ ?_ <;> first | (simp only [go_sem, seval, reduceCtorEq, dropF_ch, dropF_cons, dropF_nil, cut, cond_true, cond_false, Int.natCast_zero, Int.natCast_add, Int.natCast_one]; done) | rfl | (simp only [go_sem, seval, reduceCtorEq, dropF_ch, dropF_cons, dropF_nil, cut, cond_true, cond_false, Int.natCast_zero, Int.natCast_add, Int.natCast_one]; rfl) | skip)
    · have e := hbad fun x => x.2 hm2
      have c2 : place (X.take k) X[k] ≥ 0 := by
        have h0 : ¬ place (X.take k) X[k] < 0 := fun e => place_neg.1 e hm2
        omega
      simp (disch := omega) only [go_sem, seval, reduceCtorEq, c2, e, reN, cond_false]
      refine FnEnd.wk (Wk.trans (Wk.nilS 1 3 3 _ _ _ rfl rfl) (Wk.nilS 1 4 1 _ _ _ rfl rfl)) ?_
      (refine FnEnd.mk (Nat.le_of_ble_eq_true rfl) rfl (of_decide_eq_true rfl) ?_ ?_ <;> try simp only [go_sem, seval, reduceCtorEq])
  have d1 : ¬ (k : Int) < L.length := by omega
  obtain rfl : k = L.length := by omega
  have hyes : reB N fs ts = true := by
    have hi' := fun i hi' => hi i hi' (by omega)
    subst hX
    subst hL
    have := map_yes hok hi'
    exact reB_yes hok h2 this.1 this.2
  clear hi
  simp (disch := omega) only [go_sem, seval, reduceCtorEq, d1]
  (refine ti_call (l14Copy_d h) ?_ ?_ ?_; (focus (simp only [go_sem, seval, reduceCtorEq]; done)); (first | rfl | (focus (simp only [go_sem]; done))))
  simp only [go_sem, seval, reduceCtorEq]
  refine wpN_lp (N.ts.length) [false, false, false, false, false, false, false, false, false, false, false, false, false, true, true, false, false, false, false, false, false, false, false, false, false, false, false, false, false, false, false, false, false, false, false, false, false, false, false, false, false, false, false, false, false, false, false, false, false, false, false, false, false, false, false, false, false, false, false, true, true, true, true, true, true, true, true, true, true, true, true, true, true, true, false, false, false, false, false, false, false] (fun k => [(58, .d (.int k))]) (fun k => [(4, mapTo (mapT (rho fs ts)) N.ts k)]) (fun _ => by (simp only [go_sem, seval, reduceCtorEq, dropF_ch, dropF_cons, dropF_nil, cut, cond_true, cond_false]); first | done | rfl) (fun _ => by (simp only [go_sem, seval, reduceCtorEq, cut]); first | done | rfl) (Nat.le_of_ble_eq_true rfl) (by first | (simp only [go_sem, seval, reduceCtorEq, dropF_ch, dropF_cons, dropF_nil, cut, cond_true, cond_false, Int.natCast_zero, Int.natCast_add, Int.natCast_one, mapTo_zero]; done) | rfl | (simp only [go_sem, seval, reduceCtorEq, dropF_ch, dropF_cons, dropF_nil, cut, cond_true, cond_false, Int.natCast_zero, Int.natCast_add, Int.natCast_one, mapTo_zero]; rfl)) (by first | (simp only [go_sem, seval, reduceCtorEq, dropF_ch, dropF_cons, dropF_nil, cut, cond_true, cond_false, Int.natCast_zero, Int.natCast_add, Int.natCast_one, mapTo_zero]; done) | rfl | (simp only [go_sem, seval, reduceCtorEq, dropF_ch, dropF_cons, dropF_nil, cut, cond_true, cond_false, Int.natCast_zero, Int.natCast_add, Int.natCast_one, mapTo_zero]; rfl)) fun k hk => ?_
  unfold L0_spec_RelabelNetwork
  by_cases hlt : k < N.ts.length
  · have d2 : (k : Int) < N.ts.length := by omega
    have hst := h.t N.ts[k] (List.getElem_mem hlt)
    have hll := hst.l.len
    have hA := map3_len (f := mapT (rho fs ts)) hk
    simp (disch := omega) only [go_sem, seval, reduceCtorEq, d2, mapTo_split hlt, tcA_one]
    refine GH.mk (Wk.sp3g 4 3 (k * 3) true (tcA ((N.ts.take k).map (mapT (rho fs ts)))) (tcA (N.ts.drop (k + 1))) (Nat.le_of_ble_eq_true rfl) rfl hA (fun _ _ _ _ => by simp only [go_sem, seval, reduceCtorEq, mapL_spG_iv, mapL_spG_tcA, mapL_two]) (fun _ _ _ _ => by simp only [mapL_ch, mapL, mapA, spG])) ?_
    simp (disch := omega) only [go_sem, seval, reduceCtorEq, dv_cellT, d2, row3_take hA, row3_drop hA, row3_mid hA]
    refine And.intro (by rw [row3_len, hA]; omega) ?_
    (refine gi_call (l06Names_d (ls := N.ts[k].labels) (fs := fs) (ts := ts) (by omega) (by omega) h2) ?_ ?_ ?_; (focus (simp only [go_sem, seval, reduceCtorEq]; done)); (first | rfl | (focus (simp only [go_sem]; done))))
    simp (disch := omega) only [go_sem, seval, reduceCtorEq, d2]
    refine ⟨by rw [row3_len, hA]; omega, by rw [row3_mid1 hA]; rfl, ?_⟩
    simp only [row3_put hA]
    (refine Next.mk (by omega) (Wk.trans (Wk.drG [11, 8, 9] 7 (Nat.le_of_ble_eq_true rfl) (Nat.le_of_ble_eq_true rfl) (of_decide_eq_true rfl) (of_decide_eq_true rfl)) ?_)); (simp only [go_sem, seval, reduceCtorEq, dropG_ch, dropG_cons, dropG_nil, cond_true, cond_false, Int.natCast_zero, Int.natCast_add, Int.natCast_one, mapTo_next hlt, relT_one]); (refine Wk.eq (Wk.ad3 [false, false, false, false, false, false, false, false, false, false, false, false, false, true, true, false, false, false, false, false, false, false, false, false, false, false, false, false, false, false, false, false, false, false, false, false, false, false, false, false, false, false, false, false, false, false, false, false, false, false, false, false, false, false, false, false, false, false, false, true, true, true, true, true, true, true, true, true, true, true, true, true, true, true, false, false, false, false, false, false, false] 4 3 (k * 3) true (τ := [_, _, _, _, _, _, _]) (Nat.le_of_ble_eq_true rfl) rfl (hA) rfl (treL_iv _) (treL_iv _) (treL_iv _) (by simp only [go_sem, seval, reduceCtorEq]) (by simp only [go_sem, seval, reduceCtorEq]) (by simp only [go_sem, seval, reduceCtorEq]) (fun _ => rnL_iv _) (fun _ => rnL_iv _)) ?_ ?_ <;> first | (simp only [go_sem, seval, reduceCtorEq, dropF_ch, dropF_cons, dropF_nil, cut, cond_true, cond_false, Int.natCast_zero, Int.natCast_add, Int.natCast_one, mapTo_next hlt, relT_one]; done) | rfl | (simp only [go_sem, seval, reduceCtorEq, dropF_ch, dropF_cons, dropF_nil, cut, cond_true, cond_false, Int.natCast_zero, Int.natCast_add, Int.natCast_one, mapTo_next hlt, relT_one]; rfl) | skip)
  have d2 : ¬ (k : Int) < N.ts.length := by omega
  obtain rfl : k = N.ts.length := by omega
  simp (disch := omega) only [go_sem, seval, reduceCtorEq, d2, mapTo_all (Nat.le_refl _)]
  (refine ti_call (l06Names_d (ls := N.os) (fs := fs) (ts := ts) (by omega) (by omega) h2) ?_ ?_ ?_; (focus (simp only [go_sem, seval, reduceCtorEq]; done)); (first | rfl | (focus (simp only [go_sem]; done))))
  simp only [go_sem, seval, reduceCtorEq, hyes, reN, cond_true, mapNet, List.length_map, relL_map]
  (refine FnEnd.mk (Nat.le_of_ble_eq_true rfl) rfl (of_decide_eq_true rfl) ?_ ?_ <;> try simp only [go_sem, seval, reduceCtorEq])
end Go.Proofs.Ytcgnehacihjnkaa
