/-
  Contracts: greedy orders, by the reference. No condition.
-/
import Derived.Test.YtjncdanegoileaaOrdH
namespace Go.Proofs.Ytjncdanegoileaa
open Go.RowKit Go.Lift Plain
set_option linter.unusedSimpArgs false
set_option linter.unusedVariables false
set_option maxRecDepth 100000

theorem grd_init {N : Net} (hok : netOk N = true) (h : 1 ≤ N.ts.length) : GrdOk (dimsR N.ts).1 (osInit N.ts) N.ts.length (N.ts.length - 1 + 1) := ⟨osInit_ok (netOk_ax hok), by rw [osInit_nums, List.length_range]; omega, osInit_T hok⟩
theorem sGreedyOrder_o {N : Net} (h : NSz 1048576 N) (hok : netOk N = true) :
    Does Try.prog 25 [netA N] [] (.own 0 0 (N.ts.length - 1)) [some ⟨2, true, iv (flatP (grdTo (dimsR N.ts).1 N.os ⟨osInit N.ts, []⟩ (N.ts.length - 1)).ps)⟩] := by
  have hol := h.o.len
  have h12 := (netOk_iff.1 hok).2.1
  have hT := osInit_T hok
  (refine spec_of (by kernel_rfl) Try.func25 k_spec_GreedyOrder (fnOk (Nat.le_of_ble_eq_true rfl) ?_); unfold C_spec_GreedyOrder)
  (simp only [Nat.reduceSub, List.length_cons, List.length_nil, Nat.reduceAdd, ch_init1, ch_init2, ch_init3, ch_init4, ch_init5, ch_init6, ch_init7, ch_init8]; try simp only [ch_rep]); (simp only [go_sem, seval, reduceCtorEq, List.replicate])
  (refine ti_call (sNetworkOk_d h) ?_ ?_ ?_; (focus (simp only [go_sem, seval, reduceCtorEq]; done)); (first | rfl | (focus (simp only [go_sem]; done))))
  simp only [go_sem, seval, reduceCtorEq, hok]
  (refine ti_call (l17New_d h hok) ?_ ?_ ?_; (focus (simp only [go_sem, seval, reduceCtorEq, stoQ]; done)); (first | rfl | (focus (simp only [go_sem]; done))))
  simp only [go_sem, seval, reduceCtorEq, stoQ]
  have hR00 : 1 ≤ N.ts.length → GrdOk (dimsR N.ts).1 (osInit N.ts) N.ts.length (N.ts.length - 1 + 1) := grd_init hok
  generalize hT0 : (dimsR N.ts).1 = T at *
  generalize hr0 : (⟨osInit N.ts, []⟩ : Grd) = r0 at *
  have hz1 : grdTo T N.os r0 0 = r0 := rfl
  have hz2 : r0.s = osInit N.ts := by rw [← hr0]
  have hz4 : flatP r0.ps = [] := by rw [← hr0]; rfl
  have hz5 : r0.ps.length = 0 := by rw [← hr0]; rfl
  rw [← hz2] at hR00
  refine wpN_lp (N.ts.length - 1) [false, false, false, false, false, false, true, true, false, true, false, false, false, false, false, true, true, true, true, true, true, true, true, true, true, true, true, true, true, true, true, true, true, true, true, true, true, true, true, true, true, true, true, true, true, true, true, true, true, true, true, true, true, true, true, true, false] (fun k => [(5, .d (.int ((k : Int) + 1))), (4, .own 4 0 k)]) (fun k => [(1, [.own 2 0 (grdTo T N.os r0 k).s.all.length, .own 3 0 (grdTo T N.os r0 k).s.gone.length]), (2, shA T (grdTo T N.os r0 k).s.all), (3, bv (grdTo T N.os r0 k).s.gone), (4, iv (flatP (grdTo T N.os r0 k).ps))]) (fun _ => by (simp only [go_sem, seval, reduceCtorEq, dropF_ch, dropF_cons, dropF_nil, cut, cond_true, cond_false]); first | done | rfl) (fun _ => by (simp only [go_sem, seval, reduceCtorEq, cut]); first | done | rfl) (Nat.le_of_ble_eq_true rfl) (by first | (simp only [go_sem, seval, reduceCtorEq, dropF_ch, dropF_cons, dropF_nil, cut, cond_true, cond_false, Int.natCast_zero, Int.natCast_add, Int.natCast_one, hz1, hz2, hz4, iv_nil, Int.zero_add]; done) | rfl | (simp only [go_sem, seval, reduceCtorEq, dropF_ch, dropF_cons, dropF_nil, cut, cond_true, cond_false, Int.natCast_zero, Int.natCast_add, Int.natCast_one, hz1, hz2, hz4, iv_nil, Int.zero_add]; rfl)) (by first | (simp only [go_sem, seval, reduceCtorEq, dropF_ch, dropF_cons, dropF_nil, cut, cond_true, cond_false, Int.natCast_zero, Int.natCast_add, Int.natCast_one, hz1, hz2, hz4, iv_nil, Int.zero_add]; done) | rfl | (simp only [go_sem, seval, reduceCtorEq, dropF_ch, dropF_cons, dropF_nil, cut, cond_true, cond_false, Int.natCast_zero, Int.natCast_add, Int.natCast_one, hz1, hz2, hz4, iv_nil, Int.zero_add]; rfl)) fun k hk => ?_
  unfold L1_spec_GreedyOrder
  have hpsl := grdTo_ps T N.os r0 k
  rw [hz5, Nat.zero_add] at hpsl
  have hfl := flatP_len (grdTo T N.os r0 k).ps
  by_cases hlt : k < N.ts.length - 1
  · have d1 : (k : Int) + 1 < N.ts.length := by omega
    have hR := grdTo_ok (os := N.os) (hR00 (by omega)) k (by omega)
    rw [show N.ts.length - 1 + 1 - k = (N.ts.length - k - 2) + 2 by omega] at hR
    have hnx : grdTo T N.os r0 (k + 1) = ⟨(grdTo T N.os r0 k).s.step N.os (grdP T N.os (grdTo T N.os r0 k).s).1 (grdP T N.os (grdTo T N.os r0 k).s).2, (grdTo T N.os r0 k).ps ++ [grdP T N.os (grdTo T N.os r0 k).s]⟩ := rfl
    have hpm := grdP_mem (T := T) (os := N.os) hR.n
    have hpp := prs_pos hR.n
    have hal := hR.ok.n
    generalize hr : grdTo T N.os r0 k = r at *
    have hta : List.take (r.s.all.length * 3) (shA T r.s.all) = shA T r.s.all := List.take_of_length_le (by rw [shA_len]; exact Nat.le_refl _)
    have hnx1 := congrArg Grd.s hnx
    have hnx3 := congrArg Grd.ps hnx
    simp only at hnx1 hnx3
    have hPl : (prs r.s.nums).length ≤ 1000000 := by
      have hb : r.s.nums.length ≤ 1000 := by have := hR.n; omega
      have hm := Nat.mul_le_mul hb (show r.s.nums.length - 1 ≤ 1000 by omega)
      rw [prs_half (by have := hR.n; omega)]
      generalize r.s.nums.length * (r.s.nums.length - 1) = M at *
      omega
    generalize hP : prs r.s.nums = P at *
    have hfp := flatP_len P
    have hb0 : bestI (gain T N.os r.s) P 0 = P[0] := by rw [bestI, List.getD_eq_getElem?_getD, List.getElem?_eq_getElem hpp]; rfl
    have g0 : List.take 2 (flatP P) = [((bestI (gain T N.os r.s) P 0).1 : Int), ((bestI (gain T N.os r.s) P 0).2 : Int)] := by rw [hb0, ← flatP_cut hpp]; rfl
    have i0 : (0 : Int) < P.length := by omega
    have hbm : ∀ i, i ≤ P.length → (bestI (gain T N.os r.s) P i).1 < N.ts.length + k ∧ (bestI (gain T N.os r.s) P i).2 < N.ts.length + k := fun i hi => by
      have hm := prs_mem (l := r.s.nums) (p := bestI (gain T N.os r.s) P i) (by rw [hP]; exact bestI_mem hpp i hi)
      have h1 := nums_mem.1 hm.1
      have h2 := nums_mem.1 hm.2
      omega
    have hpb : ∀ i (hi : i < P.length), P[i].1 < N.ts.length + k ∧ P[i].2 < N.ts.length + k := fun i hi => by
      have hm := prs_mem (l := r.s.nums) (p := P[i]) (by rw [hP]; exact List.getElem_mem _)
      have h1 := nums_mem.1 hm.1
      have h2 := nums_mem.1 hm.2
      omega
    simp (disch := omega) only [go_sem, seval, reduceCtorEq, d1]
    have hpc := l19Pairs_d (T := T) (s := r.s) hR.ok (by omega)
    rw [hP] at hpc
    (refine ti_call (hpc) ?_ ?_ ?_; (focus (simp only [go_sem, seval, reduceCtorEq, osQ, hta, List.take_length]; done)); (first | rfl | (focus (simp only [go_sem]; done))))
    simp (disch := omega) only [go_sem, seval, reduceCtorEq, i0, g0, Nat.zero_mul, iv_two]
    refine ⟨by omega, ?_⟩
    refine wpN_lp (P.length) [false, false, false, false, false, false, false, false, false, true, false, false, false, false, false, false, false, false, false, false, false, false, false, false, false, false, false, false, false, false, false, true, true, true, true, true, true, true, true, true, true, true, true, true, true, true, true, false, false, false, false, false, false, false, false, false, false] (fun i => [(30, .d (.int i))]) (fun i => [(6, [.d (.int (bestI (gain T N.os r.s) P i).1), .d (.int (bestI (gain T N.os r.s) P i).2)])]) (fun _ => by (simp only [go_sem, seval, reduceCtorEq, dropF_ch, dropF_cons, dropF_nil, cut, cond_true, cond_false]); first | done | rfl) (fun _ => by (simp only [go_sem, seval, reduceCtorEq, cut]); first | done | rfl) (Nat.le_of_ble_eq_true rfl) (by first | (simp only [go_sem, seval, reduceCtorEq, dropF_ch, dropF_cons, dropF_nil, cut, cond_true, cond_false, Int.natCast_zero, Int.natCast_add, Int.natCast_one, Int.natCast_zero]; done) | rfl | (simp only [go_sem, seval, reduceCtorEq, dropF_ch, dropF_cons, dropF_nil, cut, cond_true, cond_false, Int.natCast_zero, Int.natCast_add, Int.natCast_one, Int.natCast_zero]; rfl)) (by first | (simp only [go_sem, seval, reduceCtorEq, dropF_ch, dropF_cons, dropF_nil, cut, cond_true, cond_false, Int.natCast_zero, Int.natCast_add, Int.natCast_one, Int.natCast_zero]; done) | rfl | (simp only [go_sem, seval, reduceCtorEq, dropF_ch, dropF_cons, dropF_nil, cut, cond_true, cond_false, Int.natCast_zero, Int.natCast_add, Int.natCast_one, Int.natCast_zero]; rfl)) fun i hi => ?_
    unfold L0_spec_GreedyOrder
    by_cases hlt2 : i < P.length
    · have d2 : (i : Int) < P.length := by omega
      have gi := flatP_cut hlt2
      obtain ⟨b1, b2⟩ := hpb i hlt2
      obtain ⟨b3, b4⟩ := hbm i (by omega)
      have hgi : P.getD i (0, 0) = P[i] := by rw [List.getD_eq_getElem?_getD, List.getElem?_eq_getElem hlt2]; rfl
      simp (disch := omega) only [go_sem, seval, reduceCtorEq, d2, gi, iv_two]
      refine ⟨by omega, ?_⟩
      (refine gi_call (l19Gain_d (T := T) (os := N.os) (s := r.s) (a := P[i].1) (b := P[i].2) hR.ok (by omega) (by omega) b1 b2 hR.t) ?_ ?_ ?_; (focus (simp only [go_sem, seval, reduceCtorEq, osQ, hta, List.take_length]; done)); (first | rfl | (focus (simp only [go_sem]; done))))
      simp only [go_sem, seval, reduceCtorEq]
      (refine ti_call (l19Gain_d (T := T) (os := N.os) (s := r.s) (a := (bestI (gain T N.os r.s) P i).1) (b := (bestI (gain T N.os r.s) P i).2) hR.ok (by omega) (by omega) b3 b4 hR.t) ?_ ?_ ?_; (focus (simp only [go_sem, seval, reduceCtorEq, osQ, hta, List.take_length]; done)); (first | rfl | (focus (simp only [go_sem]; done))))
      simp only [go_sem, seval, reduceCtorEq]
      have hbs : bestI (gain T N.os r.s) P (i + 1) = if gain T N.os r.s P[i] < gain T N.os r.s (bestI (gain T N.os r.s) P i) then P[i] else bestI (gain T N.os r.s) P i := by rw [bestI, hgi]
      by_cases hcmp : gain T N.os r.s (P[i].1, P[i].2) < gain T N.os r.s ((bestI (gain T N.os r.s) P i).1, (bestI (gain T N.os r.s) P i).2)
      · have e : bestI (gain T N.os r.s) P (i + 1) = P[i] := by rw [hbs]; exact if_pos hcmp
        simp (disch := omega) only [go_sem, seval, reduceCtorEq, hcmp]
        (refine Next.drop [false, false, false, false, false, false, false, false, false, true, false, false, false, false, false, false, false, false, false, false, false, false, false, false, false, false, false, false, false, false, false, true, true, true, true, true, true, true, true, true, true, true, true, true, true, true, true, false, false, false, false, false, false, false, false, false, false] (by omega) (Nat.le_of_ble_eq_true rfl) ?_ ?_ <;> first | (simp only [go_sem, seval, reduceCtorEq, dropF_ch, dropF_cons, dropF_nil, cut, cond_true, cond_false, Int.natCast_zero, Int.natCast_add, Int.natCast_one, e]; done) | rfl | (simp only [go_sem, seval, reduceCtorEq, dropF_ch, dropF_cons, dropF_nil, cut, cond_true, cond_false, Int.natCast_zero, Int.natCast_add, Int.natCast_one, e]; rfl) | skip)
      · have e : bestI (gain T N.os r.s) P (i + 1) = bestI (gain T N.os r.s) P i := by rw [hbs]; exact if_neg hcmp
        simp (disch := omega) only [go_sem, seval, reduceCtorEq, hcmp]
        (refine Next.drop [false, false, false, false, false, false, false, false, false, true, false, false, false, false, false, false, false, false, false, false, false, false, false, false, false, false, false, false, false, false, false, true, true, true, true, true, true, true, true, true, true, true, true, true, true, true, true, false, false, false, false, false, false, false, false, false, false] (by omega) (Nat.le_of_ble_eq_true rfl) ?_ ?_ <;> first | (simp only [go_sem, seval, reduceCtorEq, dropF_ch, dropF_cons, dropF_nil, cut, cond_true, cond_false, Int.natCast_zero, Int.natCast_add, Int.natCast_one, e]; done) | rfl | (simp only [go_sem, seval, reduceCtorEq, dropF_ch, dropF_cons, dropF_nil, cut, cond_true, cond_false, Int.natCast_zero, Int.natCast_add, Int.natCast_one, e]; rfl) | skip)
    · have d2 : ¬ (i : Int) < P.length := by omega
      obtain rfl : i = P.length := by omega
      have hq : bestI (gain T N.os r.s) P P.length = grdP T N.os r.s := by rw [grdP, hP]
      obtain ⟨b3, b4⟩ := hbm P.length (Nat.le_refl _)
      rw [hq] at b3 b4
      simp (disch := omega) only [go_sem, seval, reduceCtorEq, d2]
      simp only [hq]
      generalize hp : grdP T N.os r.s = p at *
      have hrow := iv_flat r.ps p.1 p.2
      have hTk := hR.t
      (refine ti_callcg [1, 2, 3] [2, 3] false (of_decide_eq_true rfl) ?_ _ ?_ (l17Step_d (T := T) (os := N.os) (s := r.s) (a := p.1) (b := p.2) hR.ok (by omega) (by omega) (by omega) (by omega) (fun i _ => hTk i)) ?_ ?_; (focus (simp only [go_sem, seval, reduceCtorEq, stoQ]; done)); (focus (simp only [go_sem, seval, reduceCtorEq, stoQ]; done)); (focus (first | rfl | (simp only [go_sem, seval, reduceCtorEq, stoQ]; done))))
      simp (disch := omega) only [go_sem, seval, reduceCtorEq, stoQ]
      (repeat (refine And.intro (by omega) ?_))
      simp only [hrow, ← hnx1]
      (refine Next.drop [false, false, false, false, false, false, true, true, false, true, false, false, false, false, false, true, true, true, true, true, true, true, true, true, true, true, true, true, true, true, true, true, true, true, true, true, true, true, true, true, true, true, true, true, true, true, true, true, true, true, true, true, true, true, true, true, false] (by omega) (Nat.le_of_ble_eq_true rfl) ?_ ?_ <;> first | (simp only [go_sem, seval, reduceCtorEq, dropF_ch, dropF_cons, dropF_nil, cut, cond_true, cond_false, Int.natCast_zero, Int.natCast_add, Int.natCast_one, hnx3]; done) | rfl | (simp only [go_sem, seval, reduceCtorEq, dropF_ch, dropF_cons, dropF_nil, cut, cond_true, cond_false, Int.natCast_zero, Int.natCast_add, Int.natCast_one, hnx3]; rfl) | skip)
  · have d1 : ¬ (k : Int) + 1 < N.ts.length := by omega
    obtain rfl : k = N.ts.length - 1 := by omega
    simp (disch := omega) only [go_sem, seval, reduceCtorEq, d1]
    (refine FnEnd.mk (Nat.le_of_ble_eq_true rfl) rfl (of_decide_eq_true rfl) ?_ ?_ <;> try simp only [go_sem, seval, reduceCtorEq])
/-! ### By the program -/
theorem best_nums {T os : List Int} {s : Osd} (h : 0 < (prs (List.range s.nums.length)).length) (c : Nat) (hc : c ≤ (prs (List.range s.nums.length)).length) :
    bestI (gain T os s) (prs s.nums) c = (fun p : Nat × Nat => (s.nums.getD p.1 0, s.nums.getD p.2 0)) (bestI (fun p => gain T os s (s.nums.getD p.1 0, s.nums.getD p.2 0)) (prs (List.range s.nums.length)) c) := by
  rw [prs_nums s.nums]
  exact bestI_map h c hc
/-- The places and the gain of the best of the first c pairs, as the program keeps them. -/
def keepB (G : Nat × Nat → Int) (P : List (Nat × Nat)) (c : Nat) : Int × Int × Int := if c = 0 then (-1, -1, 0) else ((bestI G P (c)).1, (bestI G P c).2, G (bestI G P c))
theorem keepB_first {G : Nat × Nat → Int} {P : List (Nat × Nat)} (h : 0 < P.length) : keepB G P 1 = (((P[0]).1 : Int), ((P[0]).2 : Int), G P[0]) := by
  have e : P.getD 0 (0, 0) = P[0] := by rw [List.getD_eq_getElem?_getD, List.getElem?_eq_getElem h]; rfl
  rw [keepB, if_neg (by omega)]
  have e1 : bestI G P 1 = P[0] := by
    rw [bestI, bestI, e]
    split <;> rfl
  rw [e1]
theorem keepB_next {G : Nat × Nat → Int} {P : List (Nat × Nat)} {c : Nat} (h : c < P.length) (h0 : 0 < c) : keepB G P (c + 1) = if G P[c] < (keepB G P c).2.2 then (((P[c]).1 : Int), ((P[c]).2 : Int), G P[c]) else keepB G P c := by
  have e : P.getD c (0, 0) = P[c] := by rw [List.getD_eq_getElem?_getD, List.getElem?_eq_getElem h]; rfl
  have e1 : bestI G P (c + 1) = if G P[c] < G (bestI G P c) then P[c] else bestI G P c := by rw [bestI, e]
  have a1 : keepB G P (c + 1) = (((bestI G P (c + 1)).1 : Int), ((bestI G P (c + 1)).2 : Int), G (bestI G P (c + 1))) := by unfold keepB; exact if_neg (by omega)
  have a2 : keepB G P c = (((bestI G P c).1 : Int), ((bestI G P c).2 : Int), G (bestI G P c)) := by unfold keepB; exact if_neg (by omega)
  rw [a1, a2, e1]
  split <;> rfl
theorem keepB_neg {G : Nat × Nat → Int} {P : List (Nat × Nat)} {c : Nat} : ((keepB G P c).1 < 0) ↔ c = 0 := by
  unfold keepB
  split
  · simp; assumption
  · simp; omega
theorem row_get {M i q : Nat} (hi : i < M) (hj : i + 1 + q < M) : (prs (List.range M))[cRow M i + q]? = some (i, i + 1 + q) := by
  have h := prs_row (List.range M) i q (by simpa using hi) (by simpa using hj)
  simpa using h
end Go.Proofs.Ytjncdanegoileaa
