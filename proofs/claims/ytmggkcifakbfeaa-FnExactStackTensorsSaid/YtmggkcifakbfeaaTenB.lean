/-
  Contracts: sums of elements, tensors aligned and joined. No condition.
-/
import Derived.Test.YtmggkcifakbfeaaMgStackTensorsA
import Derived.Test.YtmggkcifakbfeaaPlC
namespace Go.Proofs.Ytmggkcifakbfeaa
open Go.RowKit Go.Lift Plain
set_option linter.unusedSimpArgs false
set_option linter.unusedVariables false
set_option maxRecDepth 100000

theorem take_eq_next {xs ys : List Int} {k : Nat} (h : xs.take k = ys.take k) (hx : k < xs.length) (hy : k < ys.length) (e : xs[k] = ys[k]) : xs.take (k + 1) = ys.take (k + 1) := by
  rw [take_ss hx, take_ss hy, h, e]
theorem equalInts_d {xs ys : List Int} (h : xs.length ≤ 1048576) (h' : ys.length ≤ 1048576) : Does Try.prog 48 [.d (ints xs), .d (ints ys)] [] (.d (.bool (decide (xs = ys)))) [] := by
  (refine spec_of (by kernel_rfl) Try.func48 k_impl_equalInts (fnOk (Nat.le_of_ble_eq_true rfl) ?_); unfold C_impl_equalInts)
  (simp only [Nat.reduceSub, List.length_cons, List.length_nil, Nat.reduceAdd, ch_init1, ch_init2, ch_init3, ch_init4, ch_init5, ch_init6, ch_init7, ch_init8]; try simp only [ch_rep]); (simp only [go_sem, seval, reduceCtorEq, List.replicate])
  by_cases hl : xs.length = ys.length
  rotate_left
  · have c : ((xs.length : Int) != ys.length) = true := by simp; omega
    have e : decide (xs = ys) = false := decide_eq_false fun e => hl (by rw [e])
    simp only [go_sem, seval, reduceCtorEq, c, e]
    (refine FnEnd.mk (Nat.le_of_ble_eq_true rfl) rfl (of_decide_eq_true rfl) ?_ ?_ <;> try simp only [go_sem, seval, reduceCtorEq])
  have c : ((xs.length : Int) != ys.length) = false := by simp [hl]
  simp only [go_sem, seval, reduceCtorEq, c]
  have hI0 : xs.take 0 = ys.take 0 := by simp
  refine wpN_lpI (xs.length) [false, false, false, false, true, true, false, false, false, false, false, false, false, false, true, true, true, true, true, true, true, true, true, true, true, true] (fun k => xs.take k = ys.take k) (fun k => [(13, .d (.int k))]) (fun k => []) (fun _ => by (simp only [go_sem, seval, reduceCtorEq, dropF_ch, dropF_cons, dropF_nil, cut, cond_true, cond_false]); first | done | rfl) (fun _ => by (simp only [go_sem, seval, reduceCtorEq, cut]); first | done | rfl) (hI0) (Nat.le_of_ble_eq_true rfl) (by first | (simp only [go_sem, seval, reduceCtorEq, dropF_ch, dropF_cons, dropF_nil, cut, cond_true, cond_false, Int.natCast_zero, Int.natCast_add, Int.natCast_one]; done) | rfl | (simp only [go_sem, seval, reduceCtorEq, dropF_ch, dropF_cons, dropF_nil, cut, cond_true, cond_false, Int.natCast_zero, Int.natCast_add, Int.natCast_one]; rfl)) (by first | (simp only [go_sem, seval, reduceCtorEq, dropF_ch, dropF_cons, dropF_nil, cut, cond_true, cond_false, Int.natCast_zero, Int.natCast_add, Int.natCast_one]; done) | rfl | (simp only [go_sem, seval, reduceCtorEq, dropF_ch, dropF_cons, dropF_nil, cut, cond_true, cond_false, Int.natCast_zero, Int.natCast_add, Int.natCast_one]; rfl)) fun k hk hi => ?_
  unfold L0_impl_equalInts
  by_cases hlt : k < xs.length
  · have d1 : (k : Int) < xs.length := by omega
    have d2 : (k : Int) < ys.length := by omega
    have hy : k < ys.length := by omega
    have g : xs[k]? = some xs[k] := List.getElem?_eq_getElem hlt
    have g' : ys[k]? = some ys[k] := List.getElem?_eq_getElem hy
    by_cases hb : xs[k] = ys[k]
    · have c2 : (xs[k] != ys[k]) = false := by simp [hb]
      simp (disch := omega) only [go_sem, seval, reduceCtorEq, d1, d2, g, g', c2]
      (repeat (refine And.intro (by omega) ?_))
      (refine NextI.drop [false, false, false, false, true, true, false, false, false, false, false, false, false, false, true, true, true, true, true, true, true, true, true, true, true, true] (by omega) (take_eq_next hi hlt hy hb) (Nat.le_of_ble_eq_true rfl) ?_ ?_ <;> first | (simp only [go_sem, seval, reduceCtorEq, dropF_ch, dropF_cons, dropF_nil, cut, cond_true, cond_false, Int.natCast_zero, Int.natCast_add, Int.natCast_one]; done) | rfl | (simp only [go_sem, seval, reduceCtorEq, dropF_ch, dropF_cons, dropF_nil, cut, cond_true, cond_false, Int.natCast_zero, Int.natCast_add, Int.natCast_one]; rfl) | skip)
    · have c2 : (xs[k] != ys[k]) = true := by simp [hb]
      have e : decide (xs = ys) = false := decide_eq_false fun e => hb (by subst e; rfl)
      simp (disch := omega) only [go_sem, seval, reduceCtorEq, d1, d2, g, g', c2, e]
      (repeat (refine And.intro (by omega) ?_))
      (refine FnEnd.mk (Nat.le_of_ble_eq_true rfl) rfl (of_decide_eq_true rfl) ?_ ?_ <;> try simp only [go_sem, seval, reduceCtorEq])
  · have d1 : ¬ (k : Int) < xs.length := by omega
    have e : decide (xs = ys) = true := decide_eq_true (by rwa [List.take_of_length_le (by omega), List.take_of_length_le (by omega)] at hi)
    simp (disch := omega) only [go_sem, seval, reduceCtorEq, d1, e]
    (refine FnEnd.mk (Nat.le_of_ble_eq_true rfl) rfl (of_decide_eq_true rfl) ?_ ?_ <;> try simp only [go_sem, seval, reduceCtorEq])
theorem l06Equal_d {xs ys : List Int} (h : xs.length ≤ 1048576) (h' : ys.length ≤ 1048576) : Does Try.prog 40 [.d (ints xs), .d (ints ys)] [] (.d (.bool (decide (xs = ys)))) [] := by
  (refine spec_of (by kernel_rfl) Try.func40 k_spec_l06Equal (fnOk (Nat.le_of_ble_eq_true rfl) ?_); unfold C_spec_l06Equal)
  (simp only [Nat.reduceSub, List.length_cons, List.length_nil, Nat.reduceAdd, ch_init1, ch_init2, ch_init3, ch_init4, ch_init5, ch_init6, ch_init7, ch_init8]; try simp only [ch_rep]); (simp only [go_sem, seval, reduceCtorEq, List.replicate])
  have hI0 : xs.take 0 = ys.take 0 := by simp
  refine wpN_lpI (xs.length) [false, false, false, false, true, true, true, false, false, false, true, true, true, true, true, true, true, true, true, true, true, true, true, true, true, true, true, false, false, false, false, false] (fun k => xs.take k = ys.take k) (fun k => [(9, .d (.int k))]) (fun k => []) (fun _ => by (simp only [go_sem, seval, reduceCtorEq, dropF_ch, dropF_cons, dropF_nil, cut, cond_true, cond_false]); first | done | rfl) (fun _ => by (simp only [go_sem, seval, reduceCtorEq, cut]); first | done | rfl) (hI0) (Nat.le_of_ble_eq_true rfl) (by first | (simp only [go_sem, seval, reduceCtorEq, dropF_ch, dropF_cons, dropF_nil, cut, cond_true, cond_false, Int.natCast_zero, Int.natCast_add, Int.natCast_one]; done) | rfl | (simp only [go_sem, seval, reduceCtorEq, dropF_ch, dropF_cons, dropF_nil, cut, cond_true, cond_false, Int.natCast_zero, Int.natCast_add, Int.natCast_one]; rfl)) (by first | (simp only [go_sem, seval, reduceCtorEq, dropF_ch, dropF_cons, dropF_nil, cut, cond_true, cond_false, Int.natCast_zero, Int.natCast_add, Int.natCast_one]; done) | rfl | (simp only [go_sem, seval, reduceCtorEq, dropF_ch, dropF_cons, dropF_nil, cut, cond_true, cond_false, Int.natCast_zero, Int.natCast_add, Int.natCast_one]; rfl)) fun k hk hi => ?_
  unfold L0_spec_l06Equal
  by_cases hlt : k < xs.length
  · have d1 : (k : Int) < xs.length := by omega
    have g : xs[k]? = some xs[k] := List.getElem?_eq_getElem hlt
    by_cases hy : k < ys.length
    · have d2 : ¬ (k : Int) ≥ ys.length := by omega
      have d3 : (k : Int) < ys.length := by omega
      have g' : ys[k]? = some ys[k] := List.getElem?_eq_getElem hy
      by_cases hb : xs[k] = ys[k]
      · have c2 : (ys[k] != xs[k]) = false := by simp [hb]
        simp (disch := omega) only [go_sem, seval, reduceCtorEq, d1, d2, d3, g, g', c2]
        (refine NextI.drop [false, false, false, false, true, true, true, false, false, false, true, true, true, true, true, true, true, true, true, true, true, true, true, true, true, true, true, false, false, false, false, false] (by omega) (take_eq_next hi hlt hy hb) (Nat.le_of_ble_eq_true rfl) ?_ ?_ <;> first | (simp only [go_sem, seval, reduceCtorEq, dropF_ch, dropF_cons, dropF_nil, cut, cond_true, cond_false, Int.natCast_zero, Int.natCast_add, Int.natCast_one]; done) | rfl | (simp only [go_sem, seval, reduceCtorEq, dropF_ch, dropF_cons, dropF_nil, cut, cond_true, cond_false, Int.natCast_zero, Int.natCast_add, Int.natCast_one]; rfl) | skip)
      · have c2 : (ys[k] != xs[k]) = true := by simp; exact fun e => hb e.symm
        have e : decide (xs = ys) = false := decide_eq_false fun e => hb (by subst e; rfl)
        simp (disch := omega) only [go_sem, seval, reduceCtorEq, d1, d2, d3, g, g', c2, e]
        (refine FnEnd.mk (Nat.le_of_ble_eq_true rfl) rfl (of_decide_eq_true rfl) ?_ ?_ <;> try simp only [go_sem, seval, reduceCtorEq])
    · have d2 : (k : Int) ≥ ys.length := by omega
      have e : decide (xs = ys) = false := decide_eq_false fun e => hy (by subst e; exact hlt)
      simp (disch := omega) only [go_sem, seval, reduceCtorEq, d1, d2, g, e]
      (refine FnEnd.mk (Nat.le_of_ble_eq_true rfl) rfl (of_decide_eq_true rfl) ?_ ?_ <;> try simp only [go_sem, seval, reduceCtorEq])
  · have d1 : ¬ (k : Int) < xs.length := by omega
    have e : decide (xs = ys) = ((xs.length : Int) == ys.length) := by
      by_cases hl : xs.length = ys.length
      · have e1 : xs = ys := by rwa [List.take_of_length_le (by omega), List.take_of_length_le (by omega)] at hi
        rw [decide_eq_true e1]; simp [hl]
      · rw [decide_eq_false fun e => hl (by rw [e])]
        simp; omega
    simp (disch := omega) only [go_sem, seval, reduceCtorEq, d1, e]
    (refine FnEnd.mk (Nat.le_of_ble_eq_true rfl) rfl (of_decide_eq_true rfl) ?_ ?_ <;> try simp only [go_sem, seval, reduceCtorEq])

/-! ### Sums -/
/-! ### Aligned -/
def alR (r : Rg) (a b : Ten) : Ten := bif alB r a b then ⟨a.labels, a.dims, (alT r a b).data⟩ else ⟨[], [], []⟩
theorem alT_eq {r : Rg} {a b : Ten} {wd n : Nat} (h : AlOk r a b wd n) : permR wd b a.labels = ⟨a.labels, a.dims, (alT r a b).data⟩ := by
  unfold alT
  rw [h.w, Int.toNat_natCast]
  unfold permR
  rw [h.dims]
theorem al_perm {r : Rg} {a b : Ten} (h : alS r a b = true) : ∃ wd n : Nat, width r = wd ∧ PermOk b a.labels wd n := by
  simp only [alS, Bool.and_eq_true] at h
  obtain ⟨⟨ha, hb⟩, hs⟩ := h
  obtain ⟨wd, n, e1, e2, e3, e4, e5, e6, e7, e8, e9, e10⟩ := ten_facts ha
  obtain ⟨wd', n', f1, f2, hp⟩ := mkPerm hb (sameB_symm (axOk_nodup e10) hs)
  exact ⟨wd', n', f1, hp⟩
theorem iAlign_d {kk pp nn : Int} {t u : Ten} (a : I64 kk) (b : I64 pp) (c : I64 nn) (ht : TSz 1048576 t) (hu : TSz 1048576 u) :
    Does Try.prog 26 [ringA kk pp nn, tenA t, tenA u] [] (.tup [ownT 0 (alR ⟨kk, pp, nn⟩ t u), .d (.bool (alB ⟨kk, pp, nn⟩ t u))]) (stoF (alR ⟨kk, pp, nn⟩ t u)) := by
  (refine spec_of (by kernel_rfl) Try.func26 k_impl_alignTensor (fnOk (Nat.le_of_ble_eq_true rfl) ?_); unfold C_impl_alignTensor)
  (simp only [Nat.reduceSub, List.length_cons, List.length_nil, Nat.reduceAdd, ch_init1, ch_init2, ch_init3, ch_init4, ch_init5, ch_init6, ch_init7, ch_init8]; try simp only [ch_rep]); (simp only [go_sem, seval, reduceCtorEq, List.replicate])
  (refine ti_call (iTensorOk_d (t := t) a b c ht.up) ?_ ?_ ?_; (focus (simp only [go_sem, seval, reduceCtorEq]; done)); (first | rfl | (focus (simp only [go_sem]; done))))
  cases h1 : tensorOk ⟨kk, pp, nn⟩ t.labels t.dims t.data
  · have e1 : alB ⟨kk, pp, nn⟩ t u = false := by simp [alB, alS, h1]
    have e2 : alR ⟨kk, pp, nn⟩ t u = ⟨[], [], []⟩ := by simp [alR, e1]
    simp only [go_sem, seval, reduceCtorEq, h1, e1, e2]
    refine FnEnd.wk (Wk.trans (Wk.nilS 3 0 1 _ _ _ rfl rfl) (Wk.trans (Wk.nilS 3 1 1 _ _ _ rfl rfl) (Wk.trans (Wk.nilS 3 2 1 _ _ _ rfl rfl) Wk.nogA))) ?_
    (refine FnEnd.mk (Nat.le_of_ble_eq_true rfl) rfl (of_decide_eq_true rfl) ?_ ?_ <;> try simp only [go_sem, seval, reduceCtorEq])
  simp only [go_sem, seval, reduceCtorEq, h1]
  (refine ti_call (iTensorOk_d (t := u) a b c hu.up) ?_ ?_ ?_; (focus (simp only [go_sem, seval, reduceCtorEq]; done)); (first | rfl | (focus (simp only [go_sem]; done))))
  cases h2 : tensorOk ⟨kk, pp, nn⟩ u.labels u.dims u.data
  · have e1 : alB ⟨kk, pp, nn⟩ t u = false := by simp [alB, alS, h2]
    have e2 : alR ⟨kk, pp, nn⟩ t u = ⟨[], [], []⟩ := by simp [alR, e1]
    simp only [go_sem, seval, reduceCtorEq, h2, e1, e2]
    refine FnEnd.wk (Wk.trans (Wk.nilS 3 0 1 _ _ _ rfl rfl) (Wk.trans (Wk.nilS 3 1 1 _ _ _ rfl rfl) (Wk.trans (Wk.nilS 3 2 1 _ _ _ rfl rfl) Wk.nogA))) ?_
    (refine FnEnd.mk (Nat.le_of_ble_eq_true rfl) rfl (of_decide_eq_true rfl) ?_ ?_ <;> try simp only [go_sem, seval, reduceCtorEq])
  simp only [go_sem, seval, reduceCtorEq, h2]
  (refine ti_call (sameLabels_d (ls := t.labels) (L := u.labels) ht.l.up.len hu.l.up.len) ?_ ?_ ?_; (focus (simp only [go_sem, seval, reduceCtorEq]; done)); (first | rfl | (focus (simp only [go_sem]; done))))
  cases h3 : sameB t.labels u.labels
  · have e1 : alB ⟨kk, pp, nn⟩ t u = false := by simp [alB, alS, h3]
    have e2 : alR ⟨kk, pp, nn⟩ t u = ⟨[], [], []⟩ := by simp [alR, e1]
    simp only [go_sem, seval, reduceCtorEq, h3, e1, e2]
    refine FnEnd.wk (Wk.trans (Wk.nilS 3 0 1 _ _ _ rfl rfl) (Wk.trans (Wk.nilS 3 1 1 _ _ _ rfl rfl) (Wk.trans (Wk.nilS 3 2 1 _ _ _ rfl rfl) Wk.nogA))) ?_
    (refine FnEnd.mk (Nat.le_of_ble_eq_true rfl) rfl (of_decide_eq_true rfl) ?_ ?_ <;> try simp only [go_sem, seval, reduceCtorEq])
  simp only [go_sem, seval, reduceCtorEq, h3]
  have hS : alS ⟨kk, pp, nn⟩ t u = true := by simp [alS, h1, h2, h3]
  obtain ⟨wd, n, f1, hp⟩ := al_perm hS
  have hdl := ht.l.len
  have htd := ht.d.len
  (refine ti_call (rawPermute_d f1 hp hu ht.l) ?_ ?_ ?_; (focus (simp only [go_sem, seval, reduceCtorEq]; done)); (first | rfl | (focus (simp only [go_sem]; done))))
  simp only [go_sem, seval, reduceCtorEq, permR]
  have hpl : (permD u t.labels).length = t.labels.length := by simp [permD]
  have hpt : List.take t.labels.length (permD u t.labels) = permD u t.labels := List.take_of_length_le (by omega)
  (refine ti_call (equalInts_d (xs := t.dims) (ys := permD u t.labels) (by omega) (by omega)) ?_ ?_ ?_; (focus (simp only [go_sem, seval, reduceCtorEq, hpl, hpt]; done)); (first | rfl | (focus (simp only [go_sem]; done))))
  by_cases h4 : permD u t.labels = t.dims
  · have e1 : alB ⟨kk, pp, nn⟩ t u = true := by simp [alB, hS, h4]
    obtain ⟨wd', n', ho⟩ := alOk_of e1
    have hww : wd' = wd := by have := ho.w; omega
    subst hww
    have e2 : alR ⟨kk, pp, nn⟩ t u = permR wd' u t.labels := by rw [alR, e1, alT_eq ho]; rfl
    have c1 : decide (t.dims = permD u t.labels) = true := decide_eq_true h4.symm
    simp only [go_sem, seval, reduceCtorEq, c1, e1, e2, permR]
    (refine FnEnd.mk (Nat.le_of_ble_eq_true rfl) rfl (of_decide_eq_true rfl) ?_ ?_ <;> try simp only [go_sem, seval, reduceCtorEq])
  · have e1 : alB ⟨kk, pp, nn⟩ t u = false := by simp [alB, h4]
    have e2 : alR ⟨kk, pp, nn⟩ t u = ⟨[], [], []⟩ := by simp [alR, e1]
    have c1 : decide (t.dims = permD u t.labels) = false := decide_eq_false fun e => h4 e.symm
    simp only [go_sem, seval, reduceCtorEq, c1, e1, e2]
    refine FnEnd.wk (Wk.trans (Wk.nilS 3 0 1 _ _ _ rfl rfl) (Wk.trans (Wk.nilS 3 1 1 _ _ _ rfl rfl) (Wk.trans (Wk.nilS 3 2 1 _ _ _ rfl rfl) Wk.nogA))) ?_
    (refine FnEnd.mk (Nat.le_of_ble_eq_true rfl) rfl (of_decide_eq_true rfl) ?_ ?_ <;> try simp only [go_sem, seval, reduceCtorEq])
def alF (r : Rg) (a b : Ten) : Ten := bif alS r a b then alT r a b else ⟨[], [], []⟩
theorem l07Fits_d {kk pp nn : Int} {t u : Ten} (a : I64 kk) (b : I64 pp) (c : I64 nn) (ht : TSz 1048576 t) (hu : TSz 1048576 u) :
    Does Try.prog 19 [ringA kk pp nn, tenA t, tenA u] [] (.tup [ownT 0 (alF ⟨kk, pp, nn⟩ t u), .d (.bool (alB ⟨kk, pp, nn⟩ t u))]) (stoF (alF ⟨kk, pp, nn⟩ t u)) := by
  (refine spec_of (by kernel_rfl) Try.func19 k_spec_l07Fits (fnOk (Nat.le_of_ble_eq_true rfl) ?_); unfold C_spec_l07Fits)
  (simp only [Nat.reduceSub, List.length_cons, List.length_nil, Nat.reduceAdd, ch_init1, ch_init2, ch_init3, ch_init4, ch_init5, ch_init6, ch_init7, ch_init8]; try simp only [ch_rep]); (simp only [go_sem, seval, reduceCtorEq, List.replicate])
  (refine ti_call (sTensorOk_d (t := t) a b c ht.up) ?_ ?_ ?_; (focus (simp only [go_sem, seval, reduceCtorEq]; done)); (first | rfl | (focus (simp only [go_sem]; done))))
  cases h1 : tensorOk ⟨kk, pp, nn⟩ t.labels t.dims t.data
  · have e1 : alB ⟨kk, pp, nn⟩ t u = false := by simp [alB, alS, h1]
    have e2 : alF ⟨kk, pp, nn⟩ t u = ⟨[], [], []⟩ := by simp [alF, alS, h1]
    simp only [go_sem, seval, reduceCtorEq, h1, e1, e2]
    refine FnEnd.wk (Wk.trans (Wk.nilS 3 0 1 _ _ _ rfl rfl) (Wk.trans (Wk.nilS 3 1 1 _ _ _ rfl rfl) (Wk.trans (Wk.nilS 3 2 1 _ _ _ rfl rfl) Wk.nogA))) ?_
    (refine FnEnd.mk (Nat.le_of_ble_eq_true rfl) rfl (of_decide_eq_true rfl) ?_ ?_ <;> try simp only [go_sem, seval, reduceCtorEq])
  simp only [go_sem, seval, reduceCtorEq, h1]
  (refine ti_call (sTensorOk_d (t := u) a b c hu.up) ?_ ?_ ?_; (focus (simp only [go_sem, seval, reduceCtorEq]; done)); (first | rfl | (focus (simp only [go_sem]; done))))
  cases h2 : tensorOk ⟨kk, pp, nn⟩ u.labels u.dims u.data
  · have e1 : alB ⟨kk, pp, nn⟩ t u = false := by simp [alB, alS, h2]
    have e2 : alF ⟨kk, pp, nn⟩ t u = ⟨[], [], []⟩ := by simp [alF, alS, h2]
    simp only [go_sem, seval, reduceCtorEq, h2, e1, e2]
    refine FnEnd.wk (Wk.trans (Wk.nilS 3 0 1 _ _ _ rfl rfl) (Wk.trans (Wk.nilS 3 1 1 _ _ _ rfl rfl) (Wk.trans (Wk.nilS 3 2 1 _ _ _ rfl rfl) Wk.nogA))) ?_
    (refine FnEnd.mk (Nat.le_of_ble_eq_true rfl) rfl (of_decide_eq_true rfl) ?_ ?_ <;> try simp only [go_sem, seval, reduceCtorEq])
  simp only [go_sem, seval, reduceCtorEq, h2]
  (refine ti_call (l06Set_d (ls := t.labels) (L := u.labels) ht.l.up.len hu.l.up.len) ?_ ?_ ?_; (focus (simp only [go_sem, seval, reduceCtorEq]; done)); (first | rfl | (focus (simp only [go_sem]; done))))
  cases h3 : sameB t.labels u.labels
  · have e1 : alB ⟨kk, pp, nn⟩ t u = false := by simp [alB, alS, h3]
    have e2 : alF ⟨kk, pp, nn⟩ t u = ⟨[], [], []⟩ := by simp [alF, alS, h3]
    simp only [go_sem, seval, reduceCtorEq, h3, e1, e2]
    refine FnEnd.wk (Wk.trans (Wk.nilS 3 0 1 _ _ _ rfl rfl) (Wk.trans (Wk.nilS 3 1 1 _ _ _ rfl rfl) (Wk.trans (Wk.nilS 3 2 1 _ _ _ rfl rfl) Wk.nogA))) ?_
    (refine FnEnd.mk (Nat.le_of_ble_eq_true rfl) rfl (of_decide_eq_true rfl) ?_ ?_ <;> try simp only [go_sem, seval, reduceCtorEq])
  simp only [go_sem, seval, reduceCtorEq, h3]
  have hS : alS ⟨kk, pp, nn⟩ t u = true := by simp [alS, h1, h2, h3]
  obtain ⟨wd, n, f1, hp⟩ := al_perm hS
  have hdl := ht.l.len
  have htd := ht.d.len
  have e2 : alF ⟨kk, pp, nn⟩ t u = permR wd u t.labels := by rw [alF, hS, alT, f1]; rfl
  have e1 : alB ⟨kk, pp, nn⟩ t u = decide (permD u t.labels = t.dims) := by rw [alB, hS, Bool.true_and]
  (refine ti_call (l06Permute_d f1 hp hu ht.l) ?_ ?_ ?_; (focus (simp only [go_sem, seval, reduceCtorEq]; done)); (first | rfl | (focus (simp only [go_sem]; done))))
  simp only [go_sem, seval, reduceCtorEq, permR]
  have hpl : (permD u t.labels).length = t.labels.length := by simp [permD]
  have hpt : List.take t.labels.length (permD u t.labels) = permD u t.labels := List.take_of_length_le (by omega)
  (refine gi_call (l06Equal_d (xs := permD u t.labels) (ys := t.dims) (by omega) (by omega)) ?_ ?_ ?_; (focus (simp only [go_sem, seval, reduceCtorEq, hpl, hpt]; done)); (first | rfl | (focus (simp only [go_sem]; done))))
  simp only [go_sem, seval, reduceCtorEq, e1, e2, permR]
  (refine FnEnd.mk (Nat.le_of_ble_eq_true rfl) rfl (of_decide_eq_true rfl) ?_ ?_ <;> try simp only [go_sem, seval, reduceCtorEq])

/-! ### Joined element by element -/
end Go.Proofs.Ytmggkcifakbfeaa
