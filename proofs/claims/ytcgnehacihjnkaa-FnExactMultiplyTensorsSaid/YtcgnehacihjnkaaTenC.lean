/-
  Contracts: products of tensors, element by element. No condition.
-/
import Derived.Test.YtcgnehacihjnkaaCodeX
import Derived.Test.YtcgnehacihjnkaaTenB
namespace Go.Proofs.Ytcgnehacihjnkaa
open Go.RowKit Go.Lift Plain
set_option linter.unusedSimpArgs false
set_option linter.unusedVariables false
set_option maxRecDepth 100000

theorem iMultiplyTensors_d {kk pp nn : Int} {t u : Ten} (a : I64 kk) (b : I64 pp) (c : I64 nn) (ht : TSz 1048576 t) (hu : TSz 1048576 u) :
    Does Try.prog 32 [ringA kk pp nn, tenA t, tenA u] [] (.tup [ownT 0 (joinT (mulE ⟨kk, pp, nn⟩) ⟨kk, pp, nn⟩ t u), .d (.bool (alB ⟨kk, pp, nn⟩ t u))]) (stoF (joinT (mulE ⟨kk, pp, nn⟩) ⟨kk, pp, nn⟩ t u)) := by
  (refine spec_of (by kernel_rfl) Try.func32 k_impl_MultiplyTensors (fnOk (Nat.le_of_ble_eq_true rfl) ?_); unfold C_impl_MultiplyTensors)
  (simp only [Nat.reduceSub, List.length_cons, List.length_nil, Nat.reduceAdd, ch_init1, ch_init2, ch_init3, ch_init4, ch_init5, ch_init6, ch_init7, ch_init8]; try simp only [ch_rep]); (simp only [go_sem, seval, reduceCtorEq, List.replicate])
  (refine ti_call (iAlign_d a b c ht hu) ?_ ?_ ?_; (focus (simp only [go_sem, seval, reduceCtorEq]; done)); (first | rfl | (focus (simp only [go_sem]; done))))
  cases h1 : alB ⟨kk, pp, nn⟩ t u
  · have e2 := joinT_no (f := mulE ⟨kk, pp, nn⟩) h1
    simp only [go_sem, seval, reduceCtorEq, h1, e2]
    refine FnEnd.wk (Wk.trans (Wk.nilS 3 0 1 _ _ _ rfl rfl) (Wk.trans (Wk.nilS 3 1 1 _ _ _ rfl rfl) (Wk.trans (Wk.nilS 3 2 1 _ _ _ rfl rfl) Wk.nogA))) ?_
    (refine FnEnd.mk (Nat.le_of_ble_eq_true rfl) rfl (of_decide_eq_true rfl) ?_ ?_ <;> try simp only [go_sem, seval, reduceCtorEq])
  obtain ⟨wd, n, ho⟩ := alOk_of h1
  have e2 := joinT_yes (f := mulE ⟨kk, pp, nn⟩) h1 ho
  have e3 : alR ⟨kk, pp, nn⟩ t u = ⟨t.labels, t.dims, (alT ⟨kk, pp, nn⟩ t u).data⟩ := by rw [alR, h1]; rfl
  have hdl := ht.d.len
  have hxl := ht.x.len
  have hal := ho.lb
  have hla := ho.la
  have hwb := ho.wb
  have hn1 := ho.n1
  have hpa := ho.pa
  have hw := ho.w
  have hf := ho.mul
  have hfb := ho.fb
  have hnw : n * wd ≤ 4096 * 6 := Nat.mul_le_mul (by omega) hwb.2
  have hsz : TSz 1048576 (⟨t.labels, t.dims, (alT ⟨kk, pp, nn⟩ t u).data⟩ : Ten) := ⟨ht.l, ht.d, ⟨by show (alT ⟨kk, pp, nn⟩ t u).data.length ≤ _; omega, fun x hx => by have := fits_mem hfb x hx; have := top_bd ho.ring; exact ⟨by omega, by omega⟩⟩⟩
  simp only [go_sem, seval, reduceCtorEq, h1, e3]
  (refine ti_call (copyTensor_f hsz) ?_ ?_ ?_; (focus (simp only [go_sem, seval, reduceCtorEq]; done)); (first | rfl | (focus (simp only [go_sem]; done))))
  simp only [go_sem, seval, reduceCtorEq]
  generalize hX : (alT ⟨kk, pp, nn⟩ t u).data = X at *
  refine wpN_lp (n) [false, false, false, false, false, false, false, false, false, false, false, false, false, false, false, false, false, false, false, false, false, false, false, false, true, true, true, true, true, true, true, true, true, true, true, true, true, true, true, true, true, true, true, true, true, false] (fun k => [(11, .d (.int k))]) (fun k => [(10, iv (opTo (mulE ⟨kk, pp, nn⟩) t.data X X wd k))]) (fun _ => by (simp only [go_sem, seval, reduceCtorEq, dropF_ch, dropF_cons, dropF_nil, cut, cond_true, cond_false]); first | done | rfl) (fun _ => by (simp only [go_sem, seval, reduceCtorEq, cut]); first | done | rfl) (Nat.le_of_ble_eq_true rfl) (by first | (simp only [go_sem, seval, reduceCtorEq, dropF_ch, dropF_cons, dropF_nil, cut, cond_true, cond_false, Int.natCast_zero, Int.natCast_add, Int.natCast_one, opTo_zero]; done) | rfl | (simp only [go_sem, seval, reduceCtorEq, dropF_ch, dropF_cons, dropF_nil, cut, cond_true, cond_false, Int.natCast_zero, Int.natCast_add, Int.natCast_one, opTo_zero]; rfl)) (by first | (simp only [go_sem, seval, reduceCtorEq, dropF_ch, dropF_cons, dropF_nil, cut, cond_true, cond_false, Int.natCast_zero, Int.natCast_add, Int.natCast_one, opTo_zero]; done) | rfl | (simp only [go_sem, seval, reduceCtorEq, dropF_ch, dropF_cons, dropF_nil, cut, cond_true, cond_false, Int.natCast_zero, Int.natCast_add, Int.natCast_one, opTo_zero]; rfl)) fun k hk => ?_
  unfold L0_impl_MultiplyTensors
  simp only [go_sem, seval, reduceCtorEq]
  (refine ti_call (productOf_d (ds := t.dims) ht.d.up.len (fun d hd => (ho.ax.dim d hd).1) (by omega)) ?_ ?_ ?_; (focus (simp only [go_sem, seval, reduceCtorEq]; done)); (first | rfl | (focus (simp only [go_sem]; done))))
  by_cases hlt : k < n
  · have h2 : (k : Int) < n := by omega
    have hms := mul_step (wd := wd) hlt
    have hol := opTo_len (z := X) hf hal hk
    have hput := opTo_put (z := X) hf hlt
    have hlf := hf k hlt
    unfold cutE at hput hlf
    have lct : ((t.data.drop (k * wd)).take wd).length = wd := cut_len (by omega)
    have lcX : ((X.drop (k * wd)).take wd).length = wd := cut_len (by omega)
    simp (disch := omega) only [go_sem, seval, reduceCtorEq, hpa, h2]
    (refine gi_callv [8, 9, 10] (rawElemV_d (ca := t.labels) (cb := t.dims) (cc := opTo (mulE ⟨kk, pp, nn⟩) t.data X X wd k) (l := t.labels.length) (d := t.dims.length) (x := k) hw hwb (m := X.length) (by omega) (by omega) (by omega)) (of_decide_eq_true rfl) ?_ ?_ ?_ ?_ ?_ ?_; (simp only [go_sem, seval, reduceCtorEq]); (first | rfl | simp only [go_sem, seval, reduceCtorEq]); (simp only [go_sem, seval, reduceCtorEq, vwOk]); (simp only [go_sem, seval, reduceCtorEq, idsL, idsA, List.contains_cons, Nat.reduceBEq, Bool.or_true, Bool.true_or]); (first | rfl | simp only [go_sem, seval, reduceCtorEq]))
    simp only [go_sem, seval, reduceCtorEq]
    (refine gi_call (rawElem_d (t := t) (x := k) hw (by omega) (by omega) (by omega) (by omega)) ?_ ?_ ?_; (focus (simp only [go_sem, seval, reduceCtorEq]; done)); (first | rfl | (focus (simp only [go_sem]; done))))
    simp only [go_sem, seval, reduceCtorEq]
    (refine gi_callv [4, 5, 6] (rawElemV_d (ca := t.labels) (cb := t.dims) (cc := X) (l := t.labels.length) (d := t.dims.length) (x := k) hw hwb (m := X.length) (by omega) (by omega) (by omega)) (of_decide_eq_true rfl) ?_ ?_ ?_ ?_ ?_ ?_; (simp only [go_sem, seval, reduceCtorEq]); (first | rfl | simp only [go_sem, seval, reduceCtorEq]); (simp only [go_sem, seval, reduceCtorEq, vwOk]); (simp only [go_sem, seval, reduceCtorEq, idsL, idsA, List.contains_cons, Nat.reduceBEq, Bool.or_true, Bool.true_or]); (first | rfl | simp only [go_sem, seval, reduceCtorEq]))
    simp only [go_sem, seval, reduceCtorEq]
    have hpl := putE_len (xs := opTo (mulE ⟨kk, pp, nn⟩) t.data X X wd k) (off := k * wd) (ys := mulE ⟨kk, pp, nn⟩ ((t.data.drop (k * wd)).take wd) ((X.drop (k * wd)).take wd)) (by omega)
    (refine ti_callw [10] false (mulInto_d ho.ring hw (fits_cut ho.fa (k * wd) wd) (fits_cut hfb (k * wd) wd) lct lcX (xs := opTo (mulE ⟨kk, pp, nn⟩) t.data X X wd k) (off := k * wd) (by omega) (by omega)) (of_decide_eq_true rfl) ?_ ?_ ?_ ?_ (of_decide_eq_true rfl) ?_; (focus (simp only [go_sem, seval, reduceCtorEq, hpl, lcX]; done)); (focus (simp only [go_sem, seval, reduceCtorEq]; done)); (focus (simp only [go_sem, seval, reduceCtorEq, hpl, lcX]; done)); (focus (simp only [go_sem, seval, reduceCtorEq]; done)))
    simp (disch := omega) only [go_sem, seval, reduceCtorEq]
    (refine Next.drop [false, false, false, false, false, false, false, false, false, false, false, false, false, false, false, false, false, false, false, false, false, false, false, false, true, true, true, true, true, true, true, true, true, true, true, true, true, true, true, true, true, true, true, true, true, false] (by omega) (Nat.le_of_ble_eq_true rfl) ?_ ?_ <;> first | (simp only [go_sem, seval, reduceCtorEq, dropF_ch, dropF_cons, dropF_nil, cut, cond_true, cond_false, Int.natCast_zero, Int.natCast_add, Int.natCast_one, hput]; done) | rfl | (simp only [go_sem, seval, reduceCtorEq, dropF_ch, dropF_cons, dropF_nil, cut, cond_true, cond_false, Int.natCast_zero, Int.natCast_add, Int.natCast_one, hput]; rfl) | skip)
  · have hkn : k = n := by omega
    subst hkn
    have h2 : ¬ (k : Int) < k := by omega
    have hall := opTo_all (f := mulE ⟨kk, pp, nn⟩) (x := t.data) (y := X) hal
    have hopl := opP_len (f := mulE ⟨kk, pp, nn⟩) (x := t.data) (y := X) hf k (Nat.le_refl _)
    simp (disch := omega) only [go_sem, seval, reduceCtorEq, hpa, h2, e2, hall]
    (refine FnEnd.mk (Nat.le_of_ble_eq_true rfl) rfl (of_decide_eq_true rfl) ?_ ?_ <;> try simp only [go_sem, seval, reduceCtorEq])
    all_goals rw [hopl, hal]
theorem sMultiplyTensors_d {kk pp nn : Int} {t u : Ten} (a : I64 kk) (b : I64 pp) (c : I64 nn) (ht : TSz 1048576 t) (hu : TSz 1048576 u) :
    Does Try.prog 29 [ringA kk pp nn, tenA t, tenA u] [] (.tup [ownT 0 (joinT (mulE ⟨kk, pp, nn⟩) ⟨kk, pp, nn⟩ t u), .d (.bool (alB ⟨kk, pp, nn⟩ t u))]) (stoF (joinT (mulE ⟨kk, pp, nn⟩) ⟨kk, pp, nn⟩ t u)) := by
  (refine spec_of (by kernel_rfl) Try.func29 k_spec_MultiplyTensors (fnOk (Nat.le_of_ble_eq_true rfl) ?_); unfold C_spec_MultiplyTensors)
  (simp only [Nat.reduceSub, List.length_cons, List.length_nil, Nat.reduceAdd, ch_init1, ch_init2, ch_init3, ch_init4, ch_init5, ch_init6, ch_init7, ch_init8]; try simp only [ch_rep]); (simp only [go_sem, seval, reduceCtorEq, List.replicate])
  (refine ti_call (l07Fits_d a b c ht hu) ?_ ?_ ?_; (focus (simp only [go_sem, seval, reduceCtorEq]; done)); (first | rfl | (focus (simp only [go_sem]; done))))
  cases h1 : alB ⟨kk, pp, nn⟩ t u
  · have e2 := joinT_no (f := mulE ⟨kk, pp, nn⟩) h1
    simp only [go_sem, seval, reduceCtorEq, h1, e2]
    refine FnEnd.wk (Wk.trans (Wk.nilS 3 0 1 _ _ _ rfl rfl) (Wk.trans (Wk.nilS 3 1 1 _ _ _ rfl rfl) (Wk.trans (Wk.nilS 3 2 1 _ _ _ rfl rfl) Wk.nogA))) ?_
    (refine FnEnd.mk (Nat.le_of_ble_eq_true rfl) rfl (of_decide_eq_true rfl) ?_ ?_ <;> try simp only [go_sem, seval, reduceCtorEq])
  obtain ⟨wd, n, ho⟩ := alOk_of h1
  have e2 := joinT_yes (f := mulE ⟨kk, pp, nn⟩) h1 ho
  have hS : alS ⟨kk, pp, nn⟩ t u = true := by simp only [alB, Bool.and_eq_true] at h1; exact h1.1
  have e3 : alF ⟨kk, pp, nn⟩ t u = ⟨t.labels, t.dims, (alT ⟨kk, pp, nn⟩ t u).data⟩ := by rw [alF, hS]; show alT _ _ _ = _; rw [← alT_eq ho, alT, ho.w]; rfl
  simp only [go_sem, seval, reduceCtorEq, h1, e3]
  (refine ti_call (l07JoinM_d (t := t) (u := ⟨t.labels, t.dims, (alT ⟨kk, pp, nn⟩ t u).data⟩) ho.ring ho.w ho.wb ho.pa ho.n1 ho.ax ho.la ho.lb ho.fa ho.fb ht) ?_ ?_ ?_; (focus (simp only [go_sem, seval, reduceCtorEq]; done)); (first | rfl | (focus (simp only [go_sem]; done))))
  simp only [go_sem, seval, reduceCtorEq, e2]
  (refine FnEnd.mk (Nat.le_of_ble_eq_true rfl) rfl (of_decide_eq_true rfl) ?_ ?_ <;> try simp only [go_sem, seval, reduceCtorEq])
end Go.Proofs.Ytcgnehacihjnkaa
