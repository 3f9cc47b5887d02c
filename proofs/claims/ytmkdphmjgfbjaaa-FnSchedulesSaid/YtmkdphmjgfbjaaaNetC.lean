/-
 Contracts: the dimensions of a network's labels; valid networks. No condition.
-/
import Derived.Test.YtmkdphmjgfbjaaaMgSchedulesA
import Derived.Test.YtmkdphmjgfbjaaaArrA
import Derived.Test.YtmkdphmjgfbjaaaNetB
import Derived.Test.YtmkdphmjgfbjaaaCoB
set_option linter.unusedSimpArgs false
set_option linter.unusedVariables false
namespace Go.Proofs.Ytmkdphmjgfbjaaa
open Go.RowKit Go.Lift Plain
set_option maxRecDepth 100000
theorem axesOf_d {D L : List Int} (hD : D.length = 100) (hL : L.length ≤ 1048576) (hx : ∀ x ∈ L, 0 ≤ x ∧ x ≤ 99) :
  Does Try.prog 45 [.agg (iv D), .d (ints L)] [] (.agg [.own 0 0 L.length, .own 1 0 L.length, .nil]) [some ⟨1, true, iv L⟩, some ⟨1, true, iv (L.map (atT D))⟩] := by
 (refine spec_of (by kernel_rfl) Try.func45 k_impl_axesOf (fnOk (nb rfl) ?_); unfold C_impl_axesOf)
 (simp only [Nat.reduceSub, List.length_cons, List.length_nil, Nat.reduceAdd, ch_init1, ch_init2, ch_init3, ch_init4, ch_init5, ch_init6, ch_init7, ch_init8]; try simp only [ch_rep]); (simp only [go_sem, seval, reduceCtorEq, List.replicate])
 (refine gi_call (copyInts_d (xs := L) (by omega)) ?_ ?_ ?_; (focus (simp only [go_sem, seval, reduceCtorEq]; done)); (first | rfl | (focus (simp only [go_sem]; done))))
 simp (disch := omega) only [go_sem, seval, reduceCtorEq]
 refine ⟨by omega, ?_⟩
 refine wpN_lp (L.length) (mkB 30 536740032) (fun k => [(16, .d (.int k))]) (fun k => [(3, iv (mix (L.map (atT D)) (List.replicate L.length 0) k))]) (h1 := by first | (simp only [go_sem, seval, reduceCtorEq, nz, na, n1, mix_zero]; first | done | rfl) | rfl) (h2 := by first | (simp only [go_sem, seval, reduceCtorEq, nz, na, n1, mix_zero]; first | done | rfl) | rfl) (hr := fun k hk => ?_)
 unfold L0_impl_axesOf
 have hml : (L.map (atT D)).length = (List.replicate L.length (0 : Int)).length := by simp
 have hmk : (mix (L.map (atT D)) (List.replicate L.length 0) k).length = L.length := by rw [mix_len hml]; simp
 by_cases hlt : k < L.length
 ·have h1 : (k : Int) < L.length := by omega
  have g : L[k]? = some L[k] := List.getElem?_eq_getElem hlt
  have hb := hx L[k] (List.getElem_mem hlt)
  have c1 : 0 ≤ L[k] := hb.1
  have c2 : L[k] < 100 := by omega
  have gd := atT_get hD hb
  have hm := mix_next hml (show (L.map (atT D))[k]? = some (atT D L[k]) by simp [hlt])
  simp (disch := omega) only [go_sem, seval, reduceCtorEq, h1, g, gd, c1, c2]
  refine ⟨by omega, ?_⟩
  (refine Next.drop (mkB 30 536740032) (by omega) (h1 := ?_) (h2 := ?_) <;> first | (simp only [go_sem, seval, reduceCtorEq, nz, na, n1, hm]; first | done | rfl) | rfl | skip)
 ·have h1 : ¬ (k : Int) < L.length := by omega
  have hm : mix (L.map (atT D)) (List.replicate L.length 0) k = L.map (atT D) := mix_full (by simp; omega) (by simp; omega)
  simp (disch := omega) only [go_sem, seval, reduceCtorEq, h1, hm]
  (refine FnEnd.mk (nb rfl) rfl (of_decide_eq_true rfl) ?_ ?_ <;> try simp only [go_sem, seval, reduceCtorEq])
theorem dimsOf_d {ts : List Ten} (h : ts.length ≤ 1048576) (ht : ∀ t ∈ ts, TSz 1048576 t) (hax : axOks ts) :
  Does Try.prog 43 [.d (tens ts)] [] (.tup [.agg (iv (dimsR ts).1), .d (.bool (dimsR ts).2)]) [] := by
 have hRl := dimsR_len ts
 have htR : List.take 100 (dimsR ts).1 = (dimsR ts).1 := List.take_of_length_le (by omega)
 have hz : (dimsTo ts 0 0).1 = repI 100 0 := by rw [dimsTo_zero]
 have hdr : List.drop 100 (repI 100 0) = [] := List.drop_of_length_le (by rw [repI_len]; exact Nat.le_refl _)
 (refine spec_of (by kernel_rfl) Try.func43 k_impl_dimsOf (fnOk (nb rfl) ?_); unfold C_impl_dimsOf)
 (simp only [Nat.reduceSub, List.length_cons, List.length_nil, Nat.reduceAdd, ch_init1, ch_init2, ch_init3, ch_init4, ch_init5, ch_init6, ch_init7, ch_init8]; try simp only [ch_rep]); (simp only [go_sem, seval, reduceCtorEq, List.replicate])
 refine wpN_lpI (ts.length) (mkB 49 281474976707016) (fun k => (dimsTo ts k 0).2 = true) (fun k => [(11, .d (.int k))]) (fun k => [(1, iv (dimsTo ts k 0).1)]) (hi := by rw [dimsTo_zero]) (h1 := by first | (simp only [go_sem, seval, reduceCtorEq, nz, na, n1, hz]; first | done | rfl) | rfl) (h2 := by first | (simp only [go_sem, seval, reduceCtorEq, nz, na, n1, hz]; first | done | rfl) | rfl) (hr := fun k hk hi => ?_)
 unfold L1_impl_dimsOf
 by_cases hlt : k < ts.length
 ·have d1 : (k : Int) < ts.length := by omega
  have g : ts[k]? = some ts[k] := List.getElem?_eq_getElem hlt
  have g3 := tcs_cut g
  have hst := ht ts[k] (List.getElem_mem hlt)
  have hat := hax ts[k] (List.getElem_mem hlt)
  have hl := hat.len
  have hstl := hst.l.len
  simp (disch := omega) only [go_sem, seval, reduceCtorEq, d1, g3]
  refine ⟨by omega, ?_⟩
  refine wpN_lpI (ts[k].labels.length) (mkB 49 140737487831432) (fun q => (dimsTo ts k q).2 = true) (fun q => [(18, .d (.int q))]) (fun q => [(1, iv (dimsTo ts k q).1)]) (hi := hi) (h1 := by first | (simp only [go_sem, seval, reduceCtorEq, nz, na, n1]; first | done | rfl) | rfl) (h2 := by first | (simp only [go_sem, seval, reduceCtorEq, nz, na, n1]; first | done | rfl) | rfl) (hr := fun q hq hiq => ?_)
  unfold L0_impl_dimsOf
  have hDl := dimsTo_len ts k q
  by_cases hltq : q < ts[k].labels.length
  ·have e1 : (q : Int) < ts[k].labels.length := by omega
   have e2 : (q : Int) < ts[k].dims.length := by omega
   have gq : ts[k].labels[q]? = some ts[k].labels[q] := List.getElem?_eq_getElem hltq
   have gd : ts[k].dims[q]? = some (dimAt ts[k] ts[k].labels[q]) := by rw [dimAt_at hat hltq (by omega)]; exact List.getElem?_eq_getElem (by omega)
   have hb : 0 ≤ ts[k].labels[q] ∧ ts[k].labels[q] ≤ 99 := by
    have := hat.2.2 q hltq
    unfold axAt at this
    rw [getD_of hltq] at this
    omega
   have c1 : 0 ≤ ts[k].labels[q] := hb.1
   have c2 : ts[k].labels[q] < 100 := by omega
   have ga := atT_get hDl hb
   have hst := dimsTo_step hax hlt hltq hiq
   have htD : List.take 100 (dimsTo ts k q).1 = (dimsTo ts k q).1 := List.take_of_length_le (by omega)
   have fail : atT (dimsTo ts k q).1 ts[k].labels[q] ≠ 0 ∧ atT (dimsTo ts k q).1 ts[k].labels[q] ≠ dimAt ts[k] ts[k].labels[q] → dimsR ts = ((dimsTo ts k q).1, false) := fun hh => by
    rw [if_pos hh] at hst
    rw [dimsTo_fail hlt (by rw [hst]), hst]
   have good : ¬ (atT (dimsTo ts k q).1 ts[k].labels[q] ≠ 0 ∧ atT (dimsTo ts k q).1 ts[k].labels[q] ≠ dimAt ts[k] ts[k].labels[q]) → dimsTo ts k (q + 1) = ((dimsTo ts k q).1.set ts[k].labels[q].toNat (dimAt ts[k] ts[k].labels[q]), true) := fun hh => by
    rw [if_neg hh] at hst
    exact hst
   have hps := put_set (n := ts[k].labels[q].toNat) (x := dimAt ts[k] ts[k].labels[q]) (xs := (dimsTo ts k q).1) (by omega)
   have hsl : ((dimsTo ts k q).1.set ts[k].labels[q].toNat (dimAt ts[k] ts[k].labels[q])).length = 100 := by rw [List.length_set]; exact hDl
   by_cases ha : atT (dimsTo ts k q).1 ts[k].labels[q] = 0
   ·have b1 : (atT (dimsTo ts k q).1 ts[k].labels[q] != 0) = false := by simp [ha]
    have hg := good fun hh => hh.1 ha
    simp (disch := omega) only [go_sem, seval, reduceCtorEq, e1, e2, gq, gd, c1, c2, ga, b1]
    refine ⟨by omega, ?_⟩
    have hI : (dimsTo ts k (q + 1)).2 = true := by rw [hg]
    (refine NextI.drop (mkB 49 140737487831432) (by omega) (hI) (h1 := ?_) (h2 := ?_) <;> first | (simp only [go_sem, seval, reduceCtorEq, nz, na, n1, hg, hps]; first | done | rfl) | rfl | skip)
   ·have b1 : (atT (dimsTo ts k q).1 ts[k].labels[q] != 0) = true := by simp [ha]
    by_cases hb2 : atT (dimsTo ts k q).1 ts[k].labels[q] = dimAt ts[k] ts[k].labels[q]
    ·have b2 : (atT (dimsTo ts k q).1 ts[k].labels[q] != dimAt ts[k] ts[k].labels[q]) = false := by simp [hb2]
     have hg := good fun hh => hh.2 hb2
     simp (disch := omega) only [go_sem, seval, reduceCtorEq, e1, e2, gq, gd, c1, c2, ga, b1, b2]
     refine ⟨by omega, ?_⟩
     have hI : (dimsTo ts k (q + 1)).2 = true := by rw [hg]
     (refine NextI.drop (mkB 49 140737487831432) (by omega) (hI) (h1 := ?_) (h2 := ?_) <;> first | (simp only [go_sem, seval, reduceCtorEq, nz, na, n1, hg, hps]; first | done | rfl) | rfl | skip)
    ·have b2 : (atT (dimsTo ts k q).1 ts[k].labels[q] != dimAt ts[k] ts[k].labels[q]) = true := by simp [hb2]
     have hf := fail ⟨ha, hb2⟩
     simp (disch := omega) only [go_sem, seval, reduceCtorEq, e1, e2, gq, gd, c1, c2, ga, b1, b2, htD, hf, hdr]
     refine ⟨by omega, by omega, ?_⟩
     (refine FnEnd.mk (r := .tup [.agg (iv (dimsTo ts k q).1), .d (.bool false)]) (nb rfl) (by simp only [resA, resL, resOne, cvL, cv, go_sem, seval, reduceCtorEq, htD, hDl, Nat.le_refl]) (by first | exact of_decide_eq_true rfl | simp only [go_sem, seval, reduceCtorEq, List.nodup_nil]) ?_ ?_ <;> try simp only [go_sem, seval, reduceCtorEq, htD, hDl, Nat.le_refl])
  ·have e1 : ¬ (q : Int) < ts[k].labels.length := by omega
   obtain rfl : q = ts[k].labels.length := by omega
   have hd := dimsTo_tensor hax hlt
   simp (disch := omega) only [go_sem, seval, reduceCtorEq, e1, hd]
   rw [hd] at hiq
   (refine NextI.drop (mkB 49 281474976707016) (by omega) (hiq) (h1 := ?_) (h2 := ?_) <;> first | (simp only [go_sem, seval, reduceCtorEq, nz, na, n1]; first | done | rfl) | rfl | skip)
 ·have d1 : ¬ (k : Int) < ts.length := by omega
  have hd := dimsTo_all (ts := ts) (k := k) (by omega)
  rw [hd] at hi
  simp (disch := omega) only [go_sem, seval, reduceCtorEq, d1, hd, htR, hi, hdr]
  refine ⟨by omega, by omega, ?_⟩
  (refine FnEnd.mk (r := .tup [.agg (iv (dimsR ts).1), .d (.bool true)]) (nb rfl) (by simp only [resA, resL, resOne, cvL, cv, go_sem, seval, reduceCtorEq, htR, hRl, Nat.le_refl]) (by first | exact of_decide_eq_true rfl | simp only [go_sem, seval, reduceCtorEq, List.nodup_nil]) ?_ ?_ <;> try simp only [go_sem, seval, reduceCtorEq, htR, hRl, Nat.le_refl])
theorem l12Dim_d {ts : List Ten} {x : Int} (h : ts.length ≤ 1048576) (ht : ∀ t ∈ ts, TSz 1048576 t) (hax : axOks ts) :
  Does Try.prog 40 [.d (tens ts), .d (.int x)] [] (.d (.int (dimN ts x))) [] := by
 (refine spec_of (by kernel_rfl) Try.func40 k_spec_l12Dim (fnOk (nb rfl) ?_); unfold C_spec_l12Dim)
 (simp only [Nat.reduceSub, List.length_cons, List.length_nil, Nat.reduceAdd, ch_init1, ch_init2, ch_init3, ch_init4, ch_init5, ch_init6, ch_init7, ch_init8]; try simp only [ch_rep]); (simp only [go_sem, seval, reduceCtorEq, List.replicate])
 have hI0 : ∀ t ∈ ts.take 0, x ∉ t.labels := fun t ht => by simp at ht
 refine wpN_lpI (ts.length) (mkB 26 67107024) (fun k => ∀ t ∈ ts.take k, x ∉ t.labels) (fun k => [(10, .d (.int k))]) (fun k => []) (hi := hI0) (h1 := by first | (simp only [go_sem, seval, reduceCtorEq, nz, na, n1]; first | done | rfl) | rfl) (h2 := by first | (simp only [go_sem, seval, reduceCtorEq, nz, na, n1]; first | done | rfl) | rfl) (hr := fun k hk hi => ?_)
 unfold L0_spec_l12Dim
 by_cases hlt : k < ts.length
 ·have d1 : (k : Int) < ts.length := by omega
  have g : ts[k]? = some ts[k] := List.getElem?_eq_getElem hlt
  have g3 := tcs_cut g
  have hst := ht ts[k] (List.getElem_mem hlt)
  have hat := hax ts[k] (List.getElem_mem hlt)
  simp (disch := omega) only [go_sem, seval, reduceCtorEq, d1, g3]
  refine ⟨by omega, ?_⟩
  (refine ti_call (l05Find_d (xs := ts[k].labels) (x := x) hst.l.up.len) ?_ ?_ ?_; (focus (simp only [go_sem, seval, reduceCtorEq]; done)); (first | rfl | (focus (simp only [go_sem]; done))))
  by_cases hm : x ∈ ts[k].labels
  ·obtain ⟨i, p1, p2, p3, p4⟩ := dimAt_get hat.len hm
   have c2 : (i : Int) ≥ 0 := by omega
   have c3 : (i : Int) < ts[k].dims.length := by omega
   have e := dimN_first hax hlt hi hm
   simp (disch := omega) only [go_sem, seval, reduceCtorEq, p3, c2, c3, p4, e]
   (refine FnEnd.mk (nb rfl) rfl (of_decide_eq_true rfl) ?_ ?_ <;> try simp only [go_sem, seval, reduceCtorEq])
  ·have c2 : ¬ place ts[k].labels x ≥ 0 := by have := place_neg.2 hm; omega
   have hI : ∀ t ∈ ts.take (k + 1), x ∉ t.labels := fun t ht => by
    rw [take_ss hlt] at ht
    rcases List.mem_append.1 ht with ht | ht
    ·exact hi t ht
    ·simp only [List.mem_singleton] at ht; subst ht; exact hm
   simp (disch := omega) only [go_sem, seval, reduceCtorEq, c2]
   (refine NextI.drop (mkB 26 67107024) (by omega) (hI) (h1 := ?_) (h2 := ?_) <;> first | (simp only [go_sem, seval, reduceCtorEq, nz, na, n1]; first | done | rfl) | rfl | skip)
 ·have d1 : ¬ (k : Int) < ts.length := by omega
  have e := dimN_none (ts := ts) (x := x) (by rw [List.take_of_length_le (by omega)] at hi; exact hi)
  simp (disch := omega) only [go_sem, seval, reduceCtorEq, d1, e]
  (refine FnEnd.mk (nb rfl) rfl (of_decide_eq_true rfl) ?_ ?_ <;> try simp only [go_sem, seval, reduceCtorEq])
theorem iNetworkOk_d {N : Net} (h : NSz 1048576 N) : Does Try.prog 30 [netA N] [] (.d (.bool (netOk N))) [] := by
 (refine spec_of (by kernel_rfl) Try.func30 k_impl_NetworkOk (fnOk (nb rfl) ?_); unfold C_impl_NetworkOk)
 (simp only [Nat.reduceSub, List.length_cons, List.length_nil, Nat.reduceAdd, ch_init1, ch_init2, ch_init3, ch_init4, ch_init5, ch_init6, ch_init7, ch_init8]; try simp only [ch_rep]); (simp only [go_sem, seval, reduceCtorEq, List.replicate])
 (refine ti_call (iRingOk_d N.k N.p N.n) ?_ ?_ ?_; (focus (simp only [go_sem, seval, reduceCtorEq]; done)); (first | rfl | (focus (simp only [go_sem]; done))))
 cases h1 : ringOk ⟨N.k, N.p, N.n⟩
 ·have e := netOk_no (N := N) fun e => by have := e.1; rw [Net.rg, h1] at this; cases this
  simp only [go_sem, seval, reduceCtorEq, h1, e]
  (refine FnEnd.mk (nb rfl) rfl (of_decide_eq_true rfl) ?_ ?_ <;> try simp only [go_sem, seval, reduceCtorEq])
 by_cases h2 : N.ts.length ≤ 12
 rotate_left
 ·have e := netOk_no (N := N) fun e => h2 e.2.1
  have c2 : (N.ts.length : Int) > 12 := by omega
  simp only [go_sem, seval, reduceCtorEq, h1, c2, e]
  (refine FnEnd.mk (nb rfl) rfl (of_decide_eq_true rfl) ?_ ?_ <;> try simp only [go_sem, seval, reduceCtorEq])
 have c2 : ¬ (N.ts.length : Int) > 12 := by omega
 by_cases h3 : N.os.length ≤ 12
 rotate_left
 ·have e := netOk_no (N := N) fun e => e.2.2.2.2 (tsize_len1 (by omega))
  have c3 : (N.os.length : Int) > 12 := by omega
  simp only [go_sem, seval, reduceCtorEq, h1, c2, c3, e]
  (refine FnEnd.mk (nb rfl) rfl (of_decide_eq_true rfl) ?_ ?_ <;> try simp only [go_sem, seval, reduceCtorEq])
 have c3 : ¬ (N.os.length : Int) > 12 := by omega
 simp only [go_sem, seval, reduceCtorEq, h1, c2, c3]
 have hI0 : tenOks N.rg (N.ts.take 0) := fun t ht => by simp at ht
 refine wpN_lpI (N.ts.length) (mkB 72 274341036052) (fun k => tenOks N.rg (N.ts.take k)) (fun k => [(28, .d (.int k))]) (fun k => []) (hi := hI0) (h1 := by first | (simp only [go_sem, seval, reduceCtorEq, nz, na, n1]; first | done | rfl) | rfl) (h2 := by first | (simp only [go_sem, seval, reduceCtorEq, nz, na, n1]; first | done | rfl) | rfl) (hr := fun k hk hi => ?_)
 unfold L1_impl_NetworkOk
 by_cases hlt : k < N.ts.length
 ·have d1 : (k : Int) < N.ts.length := by omega
  have g : N.ts[k]? = some N.ts[k] := List.getElem?_eq_getElem hlt
  have g3 := tcs_cut g
  have hst := h.t N.ts[k] (List.getElem_mem hlt)
  simp (disch := omega) only [go_sem, seval, reduceCtorEq, d1, g3]
  refine ⟨by omega, ?_⟩
  (refine ti_call (iTensorOk_d (t := N.ts[k]) h.k h.p h.n hst.up) ?_ ?_ ?_; (focus (simp only [go_sem, seval, reduceCtorEq]; done)); (first | rfl | (focus (simp only [go_sem]; done))))
  cases hto : tensorOk ⟨N.k, N.p, N.n⟩ N.ts[k].labels N.ts[k].dims N.ts[k].data
  ·have e := netOk_no (N := N) fun e => by have := e.2.2.1 N.ts[k] (List.getElem_mem hlt); rw [Net.rg, hto] at this; cases this
   simp only [go_sem, seval, reduceCtorEq, hto, e]
   (refine FnEnd.mk (nb rfl) rfl (of_decide_eq_true rfl) ?_ ?_ <;> try simp only [go_sem, seval, reduceCtorEq])
  ·have hI : tenOks N.rg (N.ts.take (k + 1)) := fun t ht => by
    rw [take_ss hlt] at ht
    rcases List.mem_append.1 ht with ht | ht
    ·exact hi t ht
    ·simp only [List.mem_singleton] at ht; subst ht; exact hto
   simp (disch := omega) only [go_sem, seval, reduceCtorEq, hto]
   (refine NextI.drop (mkB 72 274341036052) (by omega) (hI) (h1 := ?_) (h2 := ?_) <;> first | (simp only [go_sem, seval, reduceCtorEq, nz, na, n1]; first | done | rfl) | rfl | skip)
 have d1 : ¬ (k : Int) < N.ts.length := by omega
 have hto : tenOks N.rg N.ts := by rw [List.take_of_length_le (by omega)] at hi; exact hi
 have hax := hto.ax
 obtain ⟨hc1, hc2⟩ := dimsR_ok hax
 have hRl := dimsR_len N.ts
 have hdr : List.drop 100 (repI 100 0) = [] := List.drop_of_length_le (by rw [repI_len]; exact Nat.le_refl _)
 simp (disch := omega) only [go_sem, seval, reduceCtorEq, d1]
 (refine ti_call (dimsOf_d (ts := N.ts) h.l h.t hax) ?_ ?_ ?_; (focus (simp only [go_sem, seval, reduceCtorEq]; done)); (first | rfl | (focus (simp only [go_sem]; done))))
 simp (disch := omega) only [go_sem, seval, reduceCtorEq, hdr]
 refine ⟨by omega, ?_⟩
 cases hok : (dimsR N.ts).2
 ·have e := netOk_no (N := N) fun e => by have := hc1.2 e.2.2.2.1; rw [hok] at this; cases this
  simp only [go_sem, seval, reduceCtorEq, hok, e]
  (refine FnEnd.mk (nb rfl) rfl (of_decide_eq_true rfl) ?_ ?_ <;> try simp only [go_sem, seval, reduceCtorEq])
 have hat := hc2 hok
 have hcons := hc1.1 hok
 simp only [go_sem, seval, reduceCtorEq, hok]
 have hJ0 : ∀ j (hj : j < N.os.length), j < 0 → 0 ≤ N.os[j] ∧ N.os[j] ≤ 99 ∧ dimN N.ts N.os[j] ≠ 0 := fun j _ hj => absurd hj (Nat.not_lt_zero j)
 have htR : List.take 100 (dimsR N.ts).1 = (dimsR N.ts).1 := List.take_of_length_le (by omega)
 refine wpN_lpI (N.os.length) (mkB 72 73785850394931364100) (fun q => ∀ j (hj : j < N.os.length), j < q → 0 ≤ N.os[j] ∧ N.os[j] ≤ 99 ∧ dimN N.ts N.os[j] ≠ 0) (fun q => [(49, .d (.int q))]) (fun q => []) (hi := hJ0) (h1 := by first | (simp only [go_sem, seval, reduceCtorEq, nz, na, n1]; first | done | rfl) | rfl) (h2 := by first | (simp only [go_sem, seval, reduceCtorEq, nz, na, n1]; first | done | rfl) | rfl) (hr := fun q hq hiq => ?_)
 unfold L0_impl_NetworkOk
 by_cases hltq : q < N.os.length
 ·have e1 : (q : Int) < N.os.length := by omega
  have g : N.os[q]? = some N.os[q] := List.getElem?_eq_getElem hltq
  have bad : ¬ (0 ≤ N.os[q] ∧ N.os[q] ≤ 99 ∧ dimN N.ts N.os[q] ≠ 0) → netOk N = false := fun hb => netOk_no fun e => e.2.2.2.2 (tsize_open q hltq hb hax)
  by_cases b1 : N.os[q] < 0
  ·have e := bad fun e => by omega
   simp (disch := omega) only [go_sem, seval, reduceCtorEq, e1, g, b1, e]
   (refine FnEnd.mk (nb rfl) rfl (of_decide_eq_true rfl) ?_ ?_ <;> try simp only [go_sem, seval, reduceCtorEq])
  by_cases b2 : N.os[q] > 99
  ·have e := bad fun e => by omega
   simp (disch := omega) only [go_sem, seval, reduceCtorEq, e1, g, b1, b2, e]
   (refine FnEnd.mk (nb rfl) rfl (of_decide_eq_true rfl) ?_ ?_ <;> try simp only [go_sem, seval, reduceCtorEq])
  have hb : 0 ≤ N.os[q] ∧ N.os[q] ≤ 99 := by omega
  have ga := atT_get hRl hb
  rw [hat _ hb] at ga
  have c1 : 0 ≤ N.os[q] := hb.1
  have c2 : N.os[q] < 100 := by omega
  by_cases b3 : dimN N.ts N.os[q] = 0
  ·have e := bad fun e => e.2.2 b3
   have b3' : (dimN N.ts N.os[q] == 0) = true := by simp [b3]
   simp (disch := omega) only [go_sem, seval, reduceCtorEq, e1, g, b1, b2, c1, c2, ga, b3', e]
   (refine FnEnd.mk (nb rfl) rfl (of_decide_eq_true rfl) ?_ ?_ <;> try simp only [go_sem, seval, reduceCtorEq])
  ·have b3' : (dimN N.ts N.os[q] == 0) = false := by simp [b3]
   have hI : ∀ j (hj : j < N.os.length), j < q + 1 → 0 ≤ N.os[j] ∧ N.os[j] ≤ 99 ∧ dimN N.ts N.os[j] ≠ 0 := fun j hj hjq => by
    by_cases e : j = q
    ·subst e; exact ⟨hb.1, hb.2, b3⟩
    ·exact hiq j hj (by omega)
   simp (disch := omega) only [go_sem, seval, reduceCtorEq, e1, g, b1, b2, c1, c2, ga, b3']
   (refine NextI.drop (mkB 72 73785850394931364100) (by omega) (hI) (h1 := ?_) (h2 := ?_) <;> first | (simp only [go_sem, seval, reduceCtorEq, nz, na, n1]; first | done | rfl) | rfl | skip)
 have e1 : ¬ (q : Int) < N.os.length := by omega
 have hosb : ∀ x ∈ N.os, 0 ≤ x ∧ x ≤ 99 := fun x hx => by
  obtain ⟨j, hj, rfl⟩ := List.getElem_of_mem hx
  have := hiq j hj (by omega)
  omega
 have hmap : N.os.map (atT (dimsR N.ts).1) = N.os.map (dimN N.ts) := List.map_congr_left fun x hx => hat x (hosb x hx)
 have hml : (N.os.map (dimN N.ts)).length = N.os.length := by simp
 have htt : List.take N.os.length (N.os.map (dimN N.ts)) = N.os.map (dimN N.ts) := List.take_of_length_le (by omega)
 have hdsz : Sz 1048576 (N.os.map (dimN N.ts)) := ⟨by omega, fun d hd => by
  obtain ⟨x, _, rfl⟩ := List.mem_map.1 hd
  have := dimN_bd hax x
  exact ⟨by omega, by omega⟩⟩
 have hfin : netOk N = (tsize N.os (N.os.map (dimN N.ts)) != -1) := by
  by_cases e : tsize N.os (N.os.map (dimN N.ts)) = -1
  ·rw [netOk_no fun hh => hh.2.2.2.2 e, e]; rfl
  ·rw [netOk_iff.2 ⟨h1, h2, hto, hcons, e⟩]; simp [e]
 simp (disch := omega) only [go_sem, seval, reduceCtorEq, e1, htR, hRl]
 (refine ti_call (axesOf_d (D := (dimsR N.ts).1) (L := N.os) hRl h.o.len hosb) ?_ ?_ ?_; (focus (simp only [go_sem, seval, reduceCtorEq]; done)); (first | rfl | (focus (simp only [go_sem]; done))))
 rw [hmap]
 simp (disch := omega) only [go_sem, seval, reduceCtorEq]
 (refine ti_call (iTensorSize_d (t := ⟨N.os, N.os.map (dimN N.ts), []⟩) ⟨h.o.up, hdsz.up, ⟨by simp, by simp⟩⟩) ?_ ?_ ?_; (focus (simp only [go_sem, seval, reduceCtorEq, hml, htt]; done)); (first | rfl | (focus (simp only [go_sem]; done))))
 simp (disch := omega) only [go_sem, seval, reduceCtorEq, hfin]
 (refine FnEnd.mk (nb rfl) rfl (of_decide_eq_true rfl) ?_ ?_ <;> try simp only [go_sem, seval, reduceCtorEq])
end Go.Proofs.Ytmkdphmjgfbjaaa
