/-
  Contracts: labels fused. No condition.
-/
import Derived.Test.YtlijfhfhonalgaaMgSplitLabelA
import Derived.Test.YtlijfhfhonalgaaConR
import Derived.Test.YtlijfhfhonalgaaCoD
namespace Go.Proofs.Ytlijfhfhonalgaa
open Go.RowKit Go.Lift Plain
set_option linter.unusedSimpArgs false
set_option linter.unusedVariables false
set_option maxRecDepth 100000

theorem take_snoc (l : List Int) (x : Int) : List.take (l.length + 1) (l ++ [x]) = l ++ [x] := List.take_of_length_le (by simp)
theorem fuF_sz {r : Rg} {t : Ten} {L : List Int} {x : Int} {wd n : Nat} (ht : TSz 1048576 t) (hx : I64 x) (h : FuOk r t L x wd n) : TSz 1048576 ⟨fuL t L x, fuD t L, (permR wd t (wol t.labels L ++ L)).data⟩ := by
  refine ⟨⟨?_, fun y hy => ?_⟩, ⟨?_, fun y hy => ?_⟩, ⟨?_, fun y hy => ht.x.wf y (gath_mem y hy)⟩⟩
  · have := h.len; simp [fuL]; omega
  · simp only [fuL, List.mem_append, List.mem_singleton] at hy
    rcases hy with hy | rfl
    · exact ht.l.wf y (wol_mem.1 hy).1
    · exact hx
  · have := h.len; simp [fuD, permD_len]; omega
  · simp only [fuD, List.mem_append, List.mem_singleton] at hy
    rcases hy with hy | rfl
    · have := h.p.dbd y (by rw [permD_app]; exact List.mem_append.2 (.inl hy))
      exact ⟨by omega, by omega⟩
    · have := h.pl
      exact ⟨by omega, by omega⟩
  · have := h.dle
    show (permR wd t (wol t.labels L ++ L)).data.length ≤ _
    omega
set_option maxHeartbeats 800000 in
theorem iFuseLabels_d {kk pp nn : Int} {t : Ten} {L : List Int} {x : Int} (a : I64 kk) (b : I64 pp) (c : I64 nn) (h : TSz 1048576 t) (hL : Sz 1048576 L) (hx : I64 x) :
    Does Try.prog 19 [ringA kk pp nn, tenA t, .d (ints L), .d (.int x)] [] (.tup [ownT 0 (fuseT ⟨kk, pp, nn⟩ t L x), .d (.bool (fuseB ⟨kk, pp, nn⟩ t L x))]) (stoF (fuseT ⟨kk, pp, nn⟩ t L x)) := by
  have hll := hL.len
  have no : fuB1 ⟨kk, pp, nn⟩ t L = false → fuseB ⟨kk, pp, nn⟩ t L x = false ∧ fuseT ⟨kk, pp, nn⟩ t L x = ⟨[], [], []⟩ := fun e => by
    have e1 : fuseB ⟨kk, pp, nn⟩ t L x = false := by simp [fuseB, e]
    exact ⟨e1, by simp [fuseT, e1]⟩
  (refine spec_ofK (by kernel_rfl) Try.func19 k_impl_FuseLabels (fnOk (Nat.le_of_ble_eq_true rfl) ?_); unfold C_impl_FuseLabels)
  (simp only [Nat.reduceSub, List.length_cons, List.length_nil, Nat.reduceAdd, ch_init1, ch_init2, ch_init3, ch_init4, ch_init5, ch_init6, ch_init7, ch_init8]; try simp only [ch_rep]); (simp only [go_sem, seval, reduceCtorEq, List.replicate])
  (refine ti_call (iTensorOk_d (t := t) a b c h.up) ?_ ?_ ?_; (focus (simp only [go_sem, seval, reduceCtorEq]; done)); (first | rfl | (focus (simp only [go_sem]; done))))
  cases h1 : tensorOk ⟨kk, pp, nn⟩ t.labels t.dims t.data
  · have e1 := (no (by simp [fuB1, h1])).1
    have e2 := (no (by simp [fuB1, h1])).2
    simp only [go_sem, seval, reduceCtorEq, h1, e1, e2]
    refine FnEnd.wk (Wk.trans (Wk.nilS 2 0 1 _ _ _ rfl rfl) (Wk.trans (Wk.nilS 2 1 1 _ _ _ rfl rfl) (Wk.trans (Wk.nilS 2 2 1 _ _ _ rfl rfl) Wk.nogA))) ?_
    (refine FnEnd.mk (Nat.le_of_ble_eq_true rfl) rfl (of_decide_eq_true rfl) ?_ ?_ <;> try simp only [go_sem, seval, reduceCtorEq])
  simp only [go_sem, seval, reduceCtorEq, h1]
  by_cases h0 : L.length = 0
  · have e1 := (no (by simp [fuB1, h0])).1
    have e2 := (no (by simp [fuB1, h0])).2
    have c1 : ((L.length : Int) == 0) = true := by simp [h0]
    simp only [go_sem, seval, reduceCtorEq, c1, e1, e2]
    refine FnEnd.wk (Wk.trans (Wk.nilS 2 0 1 _ _ _ rfl rfl) (Wk.trans (Wk.nilS 2 1 1 _ _ _ rfl rfl) (Wk.trans (Wk.nilS 2 2 1 _ _ _ rfl rfl) Wk.nogA))) ?_
    (refine FnEnd.mk (Nat.le_of_ble_eq_true rfl) rfl (of_decide_eq_true rfl) ?_ ?_ <;> try simp only [go_sem, seval, reduceCtorEq])
  have c1 : ((L.length : Int) == 0) = false := by simp [h0]
  by_cases h2 : t.labels.length < L.length
  · have h3 : distB t.labels L = false := by
      cases e : distB t.labels L
      · rfl
      · have := distB_len e; omega
    have e1 := (no (by simp [fuB1, h3])).1
    have e2 := (no (by simp [fuB1, h3])).2
    have h2' : (L.length : Int) > t.labels.length := by omega
    simp (disch := omega) only [go_sem, seval, reduceCtorEq, c1, h2', e1, e2]
    refine FnEnd.wk (Wk.trans (Wk.nilS 2 0 1 _ _ _ rfl rfl) (Wk.trans (Wk.nilS 2 1 1 _ _ _ rfl rfl) (Wk.trans (Wk.nilS 2 2 1 _ _ _ rfl rfl) Wk.nogA))) ?_
    (refine FnEnd.mk (Nat.le_of_ble_eq_true rfl) rfl (of_decide_eq_true rfl) ?_ ?_ <;> try simp only [go_sem, seval, reduceCtorEq])
  have h2' : ¬ (L.length : Int) > t.labels.length := by omega
  simp (disch := omega) only [go_sem, seval, reduceCtorEq, c1, h2']
  have hax := (tensorOk_facts h1).2.1
  refine wpN_lpI (L.length) [false, false, false, false, false, false, false, false, false, true, true, true, false, false, false, false, false, false, false, false, false, false, false, false, false, false, false, false, false, false, false, false, false, false, false, false, false, false, false, true, true, true, true, true, true, true, true, true, true, true, true, true, true, true, true, true, false, false, false, false, false, false, false, false, false, false, false, false, false, false, false, false, false, false, false, false, false, false, false, false, false, false, false, false, false, false, false, false, false, false, false, false, false, false, false, false, false, false, false, false, false, false, false, false, false, false] (fun k => ∀ j (hj : j < L.length), j < k → L[j] ∈ t.labels ∧ L[j] ∉ L.take j) (fun k => [(38, .d (.int k))]) (fun k => []) (fun _ => by (simp only [go_sem, seval, reduceCtorEq, dropF_ch, dropF_cons, dropF_nil, cut, cond_true, cond_false]); first | done | rfl) (fun _ => by (simp only [go_sem, seval, reduceCtorEq, cut]); first | done | rfl) (fun j _ hj => absurd hj (Nat.not_lt_zero j)) (Nat.le_of_ble_eq_true rfl) (by first | (simp only [go_sem, seval, reduceCtorEq, dropF_ch, dropF_cons, dropF_nil, cut, cond_true, cond_false, Int.natCast_zero, Int.natCast_add, Int.natCast_one]; done) | rfl | (simp only [go_sem, seval, reduceCtorEq, dropF_ch, dropF_cons, dropF_nil, cut, cond_true, cond_false, Int.natCast_zero, Int.natCast_add, Int.natCast_one]; rfl)) (by first | (simp only [go_sem, seval, reduceCtorEq, dropF_ch, dropF_cons, dropF_nil, cut, cond_true, cond_false, Int.natCast_zero, Int.natCast_add, Int.natCast_one]; done) | rfl | (simp only [go_sem, seval, reduceCtorEq, dropF_ch, dropF_cons, dropF_nil, cut, cond_true, cond_false, Int.natCast_zero, Int.natCast_add, Int.natCast_one]; rfl)) fun k hk hi => ?_
  unfold L1_impl_FuseLabels
  by_cases hlt : k < L.length
  · have d1 : (k : Int) < L.length := by omega
    have g : L[k]? = some L[k] := List.getElem?_eq_getElem hlt
    have hlk : (L.take k).length = k := by simp; omega
    have d2 : (k : Int) ≤ L.length := by omega
    simp (disch := omega) only [go_sem, seval, reduceCtorEq, d1, d2, g]
    (refine ti_call (axisOf_d (t := t) (x := L[k]) h.l.up.len) ?_ ?_ ?_; (focus (simp only [go_sem, seval, reduceCtorEq]; done)); (first | rfl | (focus (simp only [go_sem]; done))))
    by_cases hm : L[k] ∈ t.labels
    · have c2 : ¬ place t.labels L[k] < 0 := fun e => place_neg.1 e hm
      simp (disch := omega) only [go_sem, seval, reduceCtorEq, c2, d1, d2]
      simp only [true_or, Int.sub_zero, Int.toNat_natCast, go_sem, seval, reduceCtorEq]
      (refine ti_call (hasInt_d (xs := L.take k) (x := L[k]) (by omega)) ?_ ?_ ?_; (focus (simp only [go_sem, seval, reduceCtorEq, hlk]; done)); (first | rfl | (focus (simp only [go_sem]; done))))
      cases hh : has (L.take k) L[k]
      · simp (disch := omega) only [go_sem, seval, reduceCtorEq, hh]
        have hI : ∀ j (hj : j < L.length), j < k + 1 → L[j] ∈ t.labels ∧ L[j] ∉ L.take j := fun j hj hjk => by
          by_cases e : j = k
          · subst e; exact ⟨hm, has_false.1 hh⟩
          · exact hi j hj (by omega)
        (refine NextI.drop [false, false, false, false, false, false, false, false, false, true, true, true, false, false, false, false, false, false, false, false, false, false, false, false, false, false, false, false, false, false, false, false, false, false, false, false, false, false, false, true, true, true, true, true, true, true, true, true, true, true, true, true, true, true, true, true, false, false, false, false, false, false, false, false, false, false, false, false, false, false, false, false, false, false, false, false, false, false, false, false, false, false, false, false, false, false, false, false, false, false, false, false, false, false, false, false, false, false, false, false, false, false, false, false, false, false] (by omega) (hI) (Nat.le_of_ble_eq_true rfl) ?_ ?_ <;> first | (simp only [go_sem, seval, reduceCtorEq, dropF_ch, dropF_cons, dropF_nil, cut, cond_true, cond_false, Int.natCast_zero, Int.natCast_add, Int.natCast_one]; done) | rfl | (simp only [go_sem, seval, reduceCtorEq, dropF_ch, dropF_cons, dropF_nil, cut, cond_true, cond_false, Int.natCast_zero, Int.natCast_add, Int.natCast_one]; rfl) | skip)
      · have h3 := distB_no (ls := t.labels) k hlt (fun e => by rw [has_false.2 e.2] at hh; cases hh)
        have e1 := (no (by simp [fuB1, h3])).1
        have e2 := (no (by simp [fuB1, h3])).2
        simp only [go_sem, seval, reduceCtorEq, hh, e1, e2]
        refine FnEnd.wk (Wk.trans (Wk.nilS 2 0 1 _ _ _ rfl rfl) (Wk.trans (Wk.nilS 2 1 1 _ _ _ rfl rfl) (Wk.trans (Wk.nilS 2 2 1 _ _ _ rfl rfl) Wk.nogA))) ?_
        (refine FnEnd.mk (Nat.le_of_ble_eq_true rfl) rfl (of_decide_eq_true rfl) ?_ ?_ <;> try simp only [go_sem, seval, reduceCtorEq])
    · have c2 : place t.labels L[k] < 0 := place_neg.2 hm
      have h3 := distB_no (ls := t.labels) k hlt (fun e => hm e.1)
      have e1 := (no (by simp [fuB1, h3])).1
      have e2 := (no (by simp [fuB1, h3])).2
      simp only [go_sem, seval, reduceCtorEq, c2, e1, e2]
      refine FnEnd.wk (Wk.trans (Wk.nilS 2 0 1 _ _ _ rfl rfl) (Wk.trans (Wk.nilS 2 1 1 _ _ _ rfl rfl) (Wk.trans (Wk.nilS 2 2 1 _ _ _ rfl rfl) Wk.nogA))) ?_
      (refine FnEnd.mk (Nat.le_of_ble_eq_true rfl) rfl (of_decide_eq_true rfl) ?_ ?_ <;> try simp only [go_sem, seval, reduceCtorEq])
  have d1 : ¬ (k : Int) < L.length := by omega
  have h3 : distB t.labels L = true := decide_eq_true fun j hj => hi j hj (by omega)
  have ho : fuB1 ⟨kk, pp, nn⟩ t L = true := by simp only [fuB1, h1, h3, Bool.true_and, Bool.and_true, decide_eq_true_eq]; omega
  obtain ⟨wd, n, hF⟩ := fuOk (x := x) ho
  simp only [go_sem, seval, reduceCtorEq, d1]
  (refine wpN_lwk (Wk.nilE 12 1 _ _ rfl) ?_; simp only [go_sem, seval, reduceCtorEq])
  refine wpN_lp (t.labels.length) [false, false, false, false, false, false, false, false, false, false, false, false, false, false, true, false, false, false, false, false, false, false, false, false, false, false, false, false, false, false, false, false, false, false, false, false, false, false, false, false, false, false, false, false, false, false, false, false, false, false, false, false, false, false, false, false, false, false, false, false, true, true, true, true, true, true, true, true, true, true, true, true, false, false, false, false, false, false, false, false, false, false, false, false, false, false, false, false, false, false, false, false, false, false, false, false, false, false, false, false, false, false, false, false, false, false] (fun q => [(12, .own 3 0 (wol (t.labels.take q) L).length), (59, .d (.int q))]) (fun q => [(3, iv (wol (t.labels.take q) L))]) (fun _ => by (simp only [go_sem, seval, reduceCtorEq, dropF_ch, dropF_cons, dropF_nil, cut, cond_true, cond_false]); first | done | rfl) (fun _ => by (simp only [go_sem, seval, reduceCtorEq, cut]); first | done | rfl) (Nat.le_of_ble_eq_true rfl) (by first | (simp only [go_sem, seval, reduceCtorEq, dropF_ch, dropF_cons, dropF_nil, cut, cond_true, cond_false, Int.natCast_zero, Int.natCast_add, Int.natCast_one, List.take_zero]; done) | rfl | (simp only [go_sem, seval, reduceCtorEq, dropF_ch, dropF_cons, dropF_nil, cut, cond_true, cond_false, Int.natCast_zero, Int.natCast_add, Int.natCast_one, List.take_zero]; rfl)) (by first | (simp only [go_sem, seval, reduceCtorEq, dropF_ch, dropF_cons, dropF_nil, cut, cond_true, cond_false, Int.natCast_zero, Int.natCast_add, Int.natCast_one, List.take_zero]; done) | rfl | (simp only [go_sem, seval, reduceCtorEq, dropF_ch, dropF_cons, dropF_nil, cut, cond_true, cond_false, Int.natCast_zero, Int.natCast_add, Int.natCast_one, List.take_zero]; rfl)) fun q hq => ?_
  unfold L0_impl_FuseLabels
  by_cases hltq : q < t.labels.length
  · have h1 : (q : Int) < t.labels.length := by omega
    have hx : t.labels[q]? = some t.labels[q] := List.getElem?_eq_getElem hltq
    have hf := wol_len (t.labels.take q) L
    have hf2 : (t.labels.take q).length ≤ t.labels.length := by rw [List.length_take]; omega
    have htl := h.l.len
    simp (disch := omega) only [go_sem, seval, reduceCtorEq, h1, hx]
    (refine ti_call (hasInt_d (xs := L) (x := t.labels[q]) (by omega)) ?_ ?_ ?_; (focus (simp only [go_sem, seval, reduceCtorEq]; done)); (first | rfl | (focus (simp only [go_sem]; done))))
    cases he : has L t.labels[q]
    · have e : wol (t.labels.take (q + 1)) L = wol (t.labels.take q) L ++ [t.labels[q]] := filter_yes (p := fun x => !has L x) hltq (by rw [he]; rfl)
      simp (disch := omega) only [go_sem, seval, reduceCtorEq, he]
      refine ⟨by omega, ?_⟩
      (refine Next.drop [false, false, false, false, false, false, false, false, false, false, false, false, false, false, true, false, false, false, false, false, false, false, false, false, false, false, false, false, false, false, false, false, false, false, false, false, false, false, false, false, false, false, false, false, false, false, false, false, false, false, false, false, false, false, false, false, false, false, false, false, true, true, true, true, true, true, true, true, true, true, true, true, false, false, false, false, false, false, false, false, false, false, false, false, false, false, false, false, false, false, false, false, false, false, false, false, false, false, false, false, false, false, false, false, false, false] (by omega) (Nat.le_of_ble_eq_true rfl) ?_ ?_ <;> first | (simp only [go_sem, seval, reduceCtorEq, dropF_ch, dropF_cons, dropF_nil, cut, cond_true, cond_false, Int.natCast_zero, Int.natCast_add, Int.natCast_one, e, List.length_append]; done) | rfl | (simp only [go_sem, seval, reduceCtorEq, dropF_ch, dropF_cons, dropF_nil, cut, cond_true, cond_false, Int.natCast_zero, Int.natCast_add, Int.natCast_one, e, List.length_append]; rfl) | skip)
    · have e : wol (t.labels.take (q + 1)) L = wol (t.labels.take q) L := filter_no (p := fun x => !has L x) hltq (by rw [he]; rfl)
      simp (disch := omega) only [go_sem, seval, reduceCtorEq, he]
      (refine Next.drop [false, false, false, false, false, false, false, false, false, false, false, false, false, false, true, false, false, false, false, false, false, false, false, false, false, false, false, false, false, false, false, false, false, false, false, false, false, false, false, false, false, false, false, false, false, false, false, false, false, false, false, false, false, false, false, false, false, false, false, false, true, true, true, true, true, true, true, true, true, true, true, true, false, false, false, false, false, false, false, false, false, false, false, false, false, false, false, false, false, false, false, false, false, false, false, false, false, false, false, false, false, false, false, false, false, false] (by omega) (Nat.le_of_ble_eq_true rfl) ?_ ?_ <;> first | (simp only [go_sem, seval, reduceCtorEq, dropF_ch, dropF_cons, dropF_nil, cut, cond_true, cond_false, Int.natCast_zero, Int.natCast_add, Int.natCast_one, e]; done) | rfl | (simp only [go_sem, seval, reduceCtorEq, dropF_ch, dropF_cons, dropF_nil, cut, cond_true, cond_false, Int.natCast_zero, Int.natCast_add, Int.natCast_one, e]; rfl) | skip)
  have d2 : ¬ (q : Int) < t.labels.length := by omega
  have htq : List.take q t.labels = t.labels := List.take_of_length_le (by omega)
  have hlen := hF.len
  have hwl : Sz 1048576 (wol t.labels L) := ⟨by omega, fun y hy => h.l.wf y (wol_mem.1 hy).1⟩
  simp (disch := omega) only [go_sem, seval, reduceCtorEq, d2, htq]
  (refine gi_call (copyInts_d (xs := wol t.labels L) hwl.up.len) ?_ ?_ ?_; (focus (simp only [go_sem, seval, reduceCtorEq]; done)); (first | rfl | (focus (simp only [go_sem]; done))))
  have hl2 := hF.len
  have hsL : Sz 1048576 (wol t.labels L ++ L) := ⟨by rw [List.length_append]; omega, fun y hy => by
    rcases List.mem_append.1 hy with hy | hy
    · exact hwl.wf y hy
    · exact hL.wf y hy⟩
  simp (disch := omega) only [go_sem, seval, reduceCtorEq]
  refine ⟨by omega, ?_⟩
  rw [← List.length_append]
  (refine gi_call (rawPermute_d hF.w hF.p h hsL) ?_ ?_ ?_; (focus (simp only [go_sem, seval, reduceCtorEq]; done)); (first | rfl | (focus (simp only [go_sem]; done))))
  have e1 : (permR wd t (wol t.labels L ++ L)).dims = permD t (wol t.labels L) ++ permD t L := permD_app ..
  have e2 : (permR wd t (wol t.labels L ++ L)).labels = wol t.labels L ++ L := rfl
  have kA := permD_len t (wol t.labels L)
  have kB := permD_len t L
  have kl : (permD t (wol t.labels L) ++ permD t L).length = (wol t.labels L).length + L.length := by rw [List.length_append, kA, kB]
  have kT : (permD t (wol t.labels L) ++ permD t L).take (wol t.labels L).length = permD t (wol t.labels L) := by rw [← kA]; simp
  have kD : (permD t (wol t.labels L) ++ permD t L).drop (wol t.labels L).length = permD t L := by rw [← kA]; simp
  simp (disch := omega) only [go_sem, seval, reduceCtorEq, e1, e2]
  refine ⟨by omega, by omega, ?_⟩
  simp only [true_or, Int.sub_zero, Int.toNat_natCast, go_sem, seval, reduceCtorEq]
  (refine gi_call (copyInts_d (xs := permD t (wol t.labels L)) (by omega)) ?_ ?_ ?_; (focus (simp only [go_sem, seval, reduceCtorEq, kT, kA]; done)); (first | rfl | (focus (simp only [go_sem]; done))))
  have cs : ((wol t.labels L).length : Int) = 0 ∨ ((wol t.labels L).length : Int) < (permD t (wol t.labels L) ++ permD t L).length := .inr (by omega)
  have ct : (((permD t (wol t.labels L) ++ permD t L).length : Int) - (wol t.labels L).length).toNat = L.length := by omega
  have kt2 : (permD t L).take L.length = permD t L := List.take_of_length_le (by omega)
  simp (disch := omega) only [go_sem, seval, reduceCtorEq]
  refine ⟨⟨by omega, Int.le_refl _⟩, ?_⟩
  simp only [if_pos cs, ct, go_sem, seval, reduceCtorEq]
  (refine gi_call (productOf_d (ds := permD t L) (by omega) (fun d hd => (hF.dl d hd).1) (by have := hF.pl; omega)) ?_ ?_ ?_; (focus (simp only [go_sem, seval, reduceCtorEq, kD, kB, kt2]; done)); (first | rfl | (focus (simp only [go_sem]; done))))
  simp (disch := omega) only [go_sem, seval, reduceCtorEq]
  refine ⟨by omega, ?_⟩
  have hsz := fuF_sz (x := x) h hx hF
  (refine ti_call (iTensorOk_d (t := ⟨fuL t L x, fuD t L, (permR wd t (wol t.labels L ++ L)).data⟩) a b c hsz.up) ?_ ?_ ?_; (focus (simp only [go_sem, seval, reduceCtorEq, fuL, fuD, List.length_append, List.length_cons, List.length_nil, take_snoc]; done)); (first | rfl | (focus (simp only [go_sem]; done))))
  have hok := hF.ok x
  by_cases h4 : tsize (fuL t L x) (fuD t L) = -1
  · have e : fuseB ⟨kk, pp, nn⟩ t L x = false := by simp [fuseB, h4]
    have e' : fuseT ⟨kk, pp, nn⟩ t L x = ⟨[], [], []⟩ := by simp [fuseT, e]
    have hok' : tensorOk ⟨kk, pp, nn⟩ (fuL t L x) (fuD t L) (permR wd t (wol t.labels L ++ L)).data = false := by rw [hok]; simp [h4]
    simp only [go_sem, seval, reduceCtorEq, hok', e, e']
    refine FnEnd.wk (Wk.trans (Wk.nilS 2 0 1 _ _ _ rfl rfl) (Wk.trans (Wk.nilS 2 1 1 _ _ _ rfl rfl) (Wk.trans (Wk.nilS 2 2 1 _ _ _ rfl rfl) Wk.nogA))) ?_
    (refine FnEnd.mk (Nat.le_of_ble_eq_true rfl) rfl (of_decide_eq_true rfl) ?_ ?_ <;> try simp only [go_sem, seval, reduceCtorEq])
  have e : fuseB ⟨kk, pp, nn⟩ t L x = true := by simp [fuseB, ho, h4]
  have e' := fuseT_yes hF e
  have hok' : tensorOk ⟨kk, pp, nn⟩ (fuL t L x) (fuD t L) (permR wd t (wol t.labels L ++ L)).data = true := by rw [hok]; simp [h4]
  simp only [go_sem, seval, reduceCtorEq, hok', e, e']
  refine FnEnd.wk Wk.nogA ?_
  have e3 : (fuL t L x).length = (wol t.labels L).length + 1 := by simp [fuL]
  have e4 : (fuD t L).length = (permD t (wol t.labels L)).length + 1 := by simp [fuD]
  simp only [go_sem, seval, reduceCtorEq, e3, e4]
  (refine FnEnd.mk (Nat.le_of_ble_eq_true rfl) rfl (of_decide_eq_true rfl) ?_ ?_ <;> try simp only [go_sem, seval, reduceCtorEq])
  rfl
set_option maxHeartbeats 800000 in
theorem sFuseLabels_d {kk pp nn : Int} {t : Ten} {L : List Int} {x : Int} (a : I64 kk) (b : I64 pp) (c : I64 nn) (h : TSz 1048576 t) (hL : Sz 1048576 L) (hx : I64 x) :
    Does Try.prog 18 [ringA kk pp nn, tenA t, .d (ints L), .d (.int x)] [] (.tup [ownT 0 (fuseT ⟨kk, pp, nn⟩ t L x), .d (.bool (fuseB ⟨kk, pp, nn⟩ t L x))]) (stoF (fuseT ⟨kk, pp, nn⟩ t L x)) := by
  have hll := hL.len
  have no : fuB1 ⟨kk, pp, nn⟩ t L = false → fuseB ⟨kk, pp, nn⟩ t L x = false ∧ fuseT ⟨kk, pp, nn⟩ t L x = ⟨[], [], []⟩ := fun e => by
    have e1 : fuseB ⟨kk, pp, nn⟩ t L x = false := by simp [fuseB, e]
    exact ⟨e1, by simp [fuseT, e1]⟩
  (refine spec_ofK (by kernel_rfl) Try.func18 k_spec_FuseLabels (fnOk (Nat.le_of_ble_eq_true rfl) ?_); unfold C_spec_FuseLabels)
  (simp only [Nat.reduceSub, List.length_cons, List.length_nil, Nat.reduceAdd, ch_init1, ch_init2, ch_init3, ch_init4, ch_init5, ch_init6, ch_init7, ch_init8]; try simp only [ch_rep]); (simp only [go_sem, seval, reduceCtorEq, List.replicate])
  (refine ti_call (sTensorOk_d (t := t) a b c h.up) ?_ ?_ ?_; (focus (simp only [go_sem, seval, reduceCtorEq]; done)); (first | rfl | (focus (simp only [go_sem]; done))))
  cases h1 : tensorOk ⟨kk, pp, nn⟩ t.labels t.dims t.data
  · have e1 := (no (by simp [fuB1, h1])).1
    have e2 := (no (by simp [fuB1, h1])).2
    simp only [go_sem, seval, reduceCtorEq, h1, e1, e2]
    refine FnEnd.wk (Wk.trans (Wk.nilS 2 0 1 _ _ _ rfl rfl) (Wk.trans (Wk.nilS 2 1 1 _ _ _ rfl rfl) (Wk.trans (Wk.nilS 2 2 1 _ _ _ rfl rfl) Wk.nogA))) ?_
    (refine FnEnd.mk (Nat.le_of_ble_eq_true rfl) rfl (of_decide_eq_true rfl) ?_ ?_ <;> try simp only [go_sem, seval, reduceCtorEq])
  simp only [go_sem, seval, reduceCtorEq, h1]
  by_cases h0 : L.length = 0
  · have e1 := (no (by simp [fuB1, h0])).1
    have e2 := (no (by simp [fuB1, h0])).2
    have c1 : (L.length : Int) < 1 := by omega
    simp only [go_sem, seval, reduceCtorEq, c1, e1, e2]
    refine FnEnd.wk (Wk.trans (Wk.nilS 2 0 1 _ _ _ rfl rfl) (Wk.trans (Wk.nilS 2 1 1 _ _ _ rfl rfl) (Wk.trans (Wk.nilS 2 2 1 _ _ _ rfl rfl) Wk.nogA))) ?_
    (refine FnEnd.mk (Nat.le_of_ble_eq_true rfl) rfl (of_decide_eq_true rfl) ?_ ?_ <;> try simp only [go_sem, seval, reduceCtorEq])
  have c1 : ¬ (L.length : Int) < 1 := by omega
  simp only [go_sem, seval, reduceCtorEq, c1]
  refine wpN_lpI (L.length) [false, false, false, false, false, false, false, false, false, true, true, true, false, false, false, false, false, false, false, false, false, false, false, false, false, false, false, false, false, true, true, true, true, true, true, true, true, true, true, true, true, true, true, true, true, true, true, true, false, false, false, false, false, false, false, false, false, false, false, false, false, false, false, false, false, false, false, false, false, false, false, false, false, false, false, false, false, false, false, false, false, false, false, false, false] (fun k => ∀ j (hj : j < L.length), j < k → L[j] ∈ t.labels ∧ L[j] ∉ L.take j) (fun k => [(28, .d (.int k))]) (fun k => []) (fun _ => by (simp only [go_sem, seval, reduceCtorEq, dropF_ch, dropF_cons, dropF_nil, cut, cond_true, cond_false]); first | done | rfl) (fun _ => by (simp only [go_sem, seval, reduceCtorEq, cut]); first | done | rfl) (fun j _ hj => absurd hj (Nat.not_lt_zero j)) (Nat.le_of_ble_eq_true rfl) (by first | (simp only [go_sem, seval, reduceCtorEq, dropF_ch, dropF_cons, dropF_nil, cut, cond_true, cond_false, Int.natCast_zero, Int.natCast_add, Int.natCast_one]; done) | rfl | (simp only [go_sem, seval, reduceCtorEq, dropF_ch, dropF_cons, dropF_nil, cut, cond_true, cond_false, Int.natCast_zero, Int.natCast_add, Int.natCast_one]; rfl)) (by first | (simp only [go_sem, seval, reduceCtorEq, dropF_ch, dropF_cons, dropF_nil, cut, cond_true, cond_false, Int.natCast_zero, Int.natCast_add, Int.natCast_one]; done) | rfl | (simp only [go_sem, seval, reduceCtorEq, dropF_ch, dropF_cons, dropF_nil, cut, cond_true, cond_false, Int.natCast_zero, Int.natCast_add, Int.natCast_one]; rfl)) fun k hk hi => ?_
  unfold L0_spec_FuseLabels
  by_cases hlt : k < L.length
  · have d1 : (k : Int) < L.length := by omega
    have g : L[k]? = some L[k] := List.getElem?_eq_getElem hlt
    have hlk : (L.take k).length = k := by simp; omega
    have d2 : (k : Int) ≤ L.length := by omega
    simp (disch := omega) only [go_sem, seval, reduceCtorEq, d1, d2, g]
    (refine ti_call (l05Find_d (xs := t.labels) (x := L[k]) h.l.up.len) ?_ ?_ ?_; (focus (simp only [go_sem, seval, reduceCtorEq]; done)); (first | rfl | (focus (simp only [go_sem]; done))))
    by_cases hm : L[k] ∈ t.labels
    · have c2 : ¬ place t.labels L[k] < 0 := fun e => place_neg.1 e hm
      simp (disch := omega) only [go_sem, seval, reduceCtorEq, c2, d1, d2]
      simp only [true_or, Int.sub_zero, Int.toNat_natCast, go_sem, seval, reduceCtorEq]
      (refine ti_call (l05Find_d (xs := L.take k) (x := L[k]) (by omega)) ?_ ?_ ?_; (focus (simp only [go_sem, seval, reduceCtorEq, hlk]; done)); (first | rfl | (focus (simp only [go_sem]; done))))
      by_cases hh : L[k] ∈ L.take k
      · have h3 := distB_no (ls := t.labels) k hlt (fun e => e.2 hh)
        have e1 := (no (by simp [fuB1, h3])).1
        have e2 := (no (by simp [fuB1, h3])).2
        have c3 : place (L.take k) L[k] ≥ 0 := Int.not_lt.1 fun e => place_neg.1 e hh
        simp only [go_sem, seval, reduceCtorEq, c3, e1, e2]
        refine FnEnd.wk (Wk.trans (Wk.nilS 2 0 1 _ _ _ rfl rfl) (Wk.trans (Wk.nilS 2 1 1 _ _ _ rfl rfl) (Wk.trans (Wk.nilS 2 2 1 _ _ _ rfl rfl) Wk.nogA))) ?_
        (refine FnEnd.mk (Nat.le_of_ble_eq_true rfl) rfl (of_decide_eq_true rfl) ?_ ?_ <;> try simp only [go_sem, seval, reduceCtorEq])
      · have c3 : ¬ place (L.take k) L[k] ≥ 0 := Int.not_le.2 (place_neg.2 hh)
        simp (disch := omega) only [go_sem, seval, reduceCtorEq, c3]
        have hI : ∀ j (hj : j < L.length), j < k + 1 → L[j] ∈ t.labels ∧ L[j] ∉ L.take j := fun j hj hjk => by
          by_cases e : j = k
          · subst e; exact ⟨hm, hh⟩
          · exact hi j hj (by omega)
        (refine NextI.drop [false, false, false, false, false, false, false, false, false, true, true, true, false, false, false, false, false, false, false, false, false, false, false, false, false, false, false, false, false, true, true, true, true, true, true, true, true, true, true, true, true, true, true, true, true, true, true, true, false, false, false, false, false, false, false, false, false, false, false, false, false, false, false, false, false, false, false, false, false, false, false, false, false, false, false, false, false, false, false, false, false, false, false, false, false] (by omega) (hI) (Nat.le_of_ble_eq_true rfl) ?_ ?_ <;> first | (simp only [go_sem, seval, reduceCtorEq, dropF_ch, dropF_cons, dropF_nil, cut, cond_true, cond_false, Int.natCast_zero, Int.natCast_add, Int.natCast_one]; done) | rfl | (simp only [go_sem, seval, reduceCtorEq, dropF_ch, dropF_cons, dropF_nil, cut, cond_true, cond_false, Int.natCast_zero, Int.natCast_add, Int.natCast_one]; rfl) | skip)
    · have c2 : place t.labels L[k] < 0 := place_neg.2 hm
      have h3 := distB_no (ls := t.labels) k hlt (fun e => hm e.1)
      have e1 := (no (by simp [fuB1, h3])).1
      have e2 := (no (by simp [fuB1, h3])).2
      simp only [go_sem, seval, reduceCtorEq, c2, e1, e2]
      refine FnEnd.wk (Wk.trans (Wk.nilS 2 0 1 _ _ _ rfl rfl) (Wk.trans (Wk.nilS 2 1 1 _ _ _ rfl rfl) (Wk.trans (Wk.nilS 2 2 1 _ _ _ rfl rfl) Wk.nogA))) ?_
      (refine FnEnd.mk (Nat.le_of_ble_eq_true rfl) rfl (of_decide_eq_true rfl) ?_ ?_ <;> try simp only [go_sem, seval, reduceCtorEq])
  have d1 : ¬ (k : Int) < L.length := by omega
  have h3 : distB t.labels L = true := decide_eq_true fun j hj => hi j hj (by omega)
  have ho : fuB1 ⟨kk, pp, nn⟩ t L = true := by simp only [fuB1, h1, h3, Bool.true_and, Bool.and_true, decide_eq_true_eq]; omega
  obtain ⟨wd, n, hF⟩ := fuOk (x := x) ho
  simp only [go_sem, seval, reduceCtorEq, d1]
  have hl2 := hF.len
  have hwl : Sz 1048576 (wol t.labels L) := ⟨by omega, fun y hy => h.l.wf y (wol_mem.1 hy).1⟩
  (refine ti_call (l10Rest_d (t := t) (L := L) h.l.len hll) ?_ ?_ ?_; (focus (simp only [go_sem, seval, reduceCtorEq]; done)); (first | rfl | (focus (simp only [go_sem]; done))))
  simp only [go_sem, seval, reduceCtorEq]
  (refine gi_call (l05Ints_d (xs := wol t.labels L) hwl.up.len) ?_ ?_ ?_; (focus (simp only [go_sem, seval, reduceCtorEq]; done)); (first | rfl | (focus (simp only [go_sem]; done))))
  have hsL : Sz 1048576 (wol t.labels L ++ L) := ⟨by rw [List.length_append]; omega, fun y hy => by
    rcases List.mem_append.1 hy with hy | hy
    · exact hwl.wf y hy
    · exact hL.wf y hy⟩
  simp (disch := omega) only [go_sem, seval, reduceCtorEq]
  refine ⟨by omega, ?_⟩
  rw [← List.length_append]
  (refine gi_call (l06Permute_d hF.w hF.p h hsL) ?_ ?_ ?_; (focus (simp only [go_sem, seval, reduceCtorEq]; done)); (first | rfl | (focus (simp only [go_sem]; done))))
  have e1 : (permR wd t (wol t.labels L ++ L)).dims = permD t (wol t.labels L) ++ permD t L := permD_app ..
  have e2 : (permR wd t (wol t.labels L ++ L)).labels = wol t.labels L ++ L := rfl
  have kA := permD_len t (wol t.labels L)
  have kB := permD_len t L
  have kl : (permD t (wol t.labels L) ++ permD t L).length = (wol t.labels L).length + L.length := by rw [List.length_append, kA, kB]
  have kT : (permD t (wol t.labels L) ++ permD t L).take (wol t.labels L).length = permD t (wol t.labels L) := by rw [← kA]; simp
  have kD : (permD t (wol t.labels L) ++ permD t L).drop (wol t.labels L).length = permD t L := by rw [← kA]; simp
  have cs : ((wol t.labels L).length : Int) = 0 ∨ ((wol t.labels L).length : Int) < (permD t (wol t.labels L) ++ permD t L).length := .inr (by omega)
  have ct : (((permD t (wol t.labels L) ++ permD t L).length : Int) - (wol t.labels L).length).toNat = L.length := by omega
  have kt2 : (permD t L).take L.length = permD t L := List.take_of_length_le (by omega)
  simp (disch := omega) only [go_sem, seval, reduceCtorEq, e1, e2]
  refine ⟨⟨by omega, Int.le_refl _⟩, ?_⟩
  simp only [if_pos cs, ct, go_sem, seval, reduceCtorEq]
  have hpl := hF.pl
  have emin : min (prodI (permD t L)) 4097 = prodI (permD t L) := Int.min_eq_left (by omega)
  (refine ti_call (l05Product_d (ds := permD t L) (lim := 4096) (by omega) (fun d hd => ⟨(hF.dl d hd).1, by have := (hF.dl d hd).2; omega⟩) (by omega)) ?_ ?_ ?_; (focus (simp only [go_sem, seval, reduceCtorEq, kD, kB, kt2]; done)); (first | rfl | (focus (simp only [go_sem]; done))))
  simp only [go_sem, seval, reduceCtorEq, emin]
  (refine ti_call (l05Ints_d (xs := wol t.labels L) hwl.up.len) ?_ ?_ ?_; (focus (simp only [go_sem, seval, reduceCtorEq]; done)); (first | rfl | (focus (simp only [go_sem]; done))))
  simp (disch := omega) only [go_sem, seval, reduceCtorEq]
  refine ⟨by omega, by omega, ?_⟩
  simp only [true_or, Int.sub_zero, Int.toNat_natCast, go_sem, seval, reduceCtorEq]
  (refine ti_call (l05Ints_d (xs := permD t (wol t.labels L)) (by omega)) ?_ ?_ ?_; (focus (simp only [go_sem, seval, reduceCtorEq, kT, kA]; done)); (first | rfl | (focus (simp only [go_sem]; done))))
  simp (disch := omega) only [go_sem, seval, reduceCtorEq]
  refine ⟨by omega, ?_⟩
  have hsz := fuF_sz (x := x) h hx hF
  (refine ti_call (sTensorSize_d (t := ⟨fuL t L x, fuD t L, (permR wd t (wol t.labels L ++ L)).data⟩) hsz.up) ?_ ?_ ?_; (focus (simp only [go_sem, seval, reduceCtorEq, fuL, fuD, List.length_append, List.length_cons, List.length_nil, take_snoc]; done)); (first | rfl | (focus (simp only [go_sem]; done))))
  by_cases h4 : tsize (fuL t L x) (fuD t L) = -1
  · have e : fuseB ⟨kk, pp, nn⟩ t L x = false := by simp [fuseB, h4]
    have e' : fuseT ⟨kk, pp, nn⟩ t L x = ⟨[], [], []⟩ := by simp [fuseT, e]
    have hok' : tsize (fuL t L x) (fuD t L) < 0 := tsize_neg.2 h4
    simp only [go_sem, seval, reduceCtorEq, hok', e, e']
    refine FnEnd.wk (Wk.trans (Wk.nilS 2 0 1 _ _ _ rfl rfl) (Wk.trans (Wk.nilS 2 1 1 _ _ _ rfl rfl) (Wk.trans (Wk.nilS 2 2 1 _ _ _ rfl rfl) Wk.nogA))) ?_
    (refine FnEnd.mk (Nat.le_of_ble_eq_true rfl) rfl (of_decide_eq_true rfl) ?_ ?_ <;> try simp only [go_sem, seval, reduceCtorEq])
  have e : fuseB ⟨kk, pp, nn⟩ t L x = true := by simp [fuseB, ho, h4]
  have e' := fuseT_yes hF e
  have hok' : ¬ tsize (fuL t L x) (fuD t L) < 0 := fun e => h4 (tsize_neg.1 e)
  simp only [go_sem, seval, reduceCtorEq, hok', e, e']
  refine FnEnd.wk Wk.nogA ?_
  have e3 : (fuL t L x).length = (wol t.labels L).length + 1 := by simp [fuL]
  have e4 : (fuD t L).length = (permD t (wol t.labels L)).length + 1 := by simp [fuD]
  simp only [go_sem, seval, reduceCtorEq, e3, e4]
  (refine FnEnd.mk (Nat.le_of_ble_eq_true rfl) rfl (of_decide_eq_true rfl) ?_ ?_ <;> try simp only [go_sem, seval, reduceCtorEq])
  rfl
end Go.Proofs.Ytlijfhfhonalgaa
