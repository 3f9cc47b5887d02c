/-
 The law of Schedules: it returns true. No condition.
-/
import Derived.Test.YtmkdphmjgfbjaaaMgSchedulesA
import Derived.Test.YtmkdphmjgfbjaaaSchC
import Derived.Test.YtmkdphmjgfbjaaaSchD
import Derived.Test.YtmkdphmjgfbjaaaSchB
import Derived.Test.YtmkdphmjgfbjaaaGenH
import Derived.Test.YtmkdphmjgfbjaaaOpenC
set_option linter.unusedSimpArgs false
set_option linter.unusedVariables false
namespace Go.Proofs.Ytmkdphmjgfbjaaa
open Go.RowKit Go.Lift Plain Sch
set_option maxRecDepth 100000
set_option maxHeartbeats 3200000 in
theorem lawSchedules_d {b : List Int} (hl : b.length ≤ 9223372036854775807) (hw : ∀ x ∈ b, 0 ≤ x ∧ x ≤ 255) :
  Does Try.prog 3 [.d (bytes b)] [] (.d (.bool true)) [] := by
 by_cases h0 : (b.length : Int) > 1048576
 ·(refine spec_of (by kernel_rfl) Try.func3 k_laws_FnSchedules (fnOk (nb rfl) ?_); unfold C_laws_FnSchedules)
  unfold bytes
  (simp only [Nat.reduceSub, List.length_cons, List.length_nil, Nat.reduceAdd, ch_init1, ch_init2, ch_init3, ch_init4, ch_init5, ch_init6, ch_init7, ch_init8]; try simp only [ch_rep]); (simp only [go_sem, seval, reduceCtorEq, List.replicate])
  simp (disch := omega) only [go_sem, seval, reduceCtorEq, h0]
  (refine FnEnd.mk (nb rfl) rfl (of_decide_eq_true rfl) ?_ ?_ <;> try simp only [go_sem, seval, reduceCtorEq])
 have hb : CodeOk b := ⟨by omega, hw⟩
 obtain ⟨kk, pp, nn, hr, hring⟩ := MakeRing_d hb (m := 0) (by omega)
 obtain ⟨N, ⟨hN, _, _⟩, hnet⟩ := MakeNetwork_d hb (m := 10) (by omega) hr (most := 5) (by omega)
 obtain ⟨F, ⟨hord, hF⟩, hmo⟩ := MakeOrder_d hb (m := 100) (by omega) hN
 obtain ⟨w, hwb, hms⟩ := MakeSize_d hb (n := 110) (by omega) (lo := 1) (hi := 4) (by omega)
 generalize N.ts.length - 1 = n at hord hF hmo
 have hz := hN.sz
 have hS := hN.small hord
 have hJ := jobOk hord
 have hn12 : n ≤ 12 := by
  have h2 := (orderOk_iff.1 hord).2.1
  have h12 := (netOk_iff.1 (orderOk_iff.1 hord).1).2.1
  omega
 obtain ⟨T1, s1, hG1, hls1⟩ := ListSchedule_d hz hF hord hS (w := w) (by omega)
 obtain ⟨T2, s2, hG2, hls2⟩ := ListSchedule_d hz hF hord hS (w := 1) (by omega)
 have hcs := hS.hc
 have hsum := sumF_le (f := costAt N F) (M := 1000000) (n := n) fun i hi => by have := hcs i hi; omega
 have hcost : orderCost N n F = sumF (costAt N F) n := by
  rw [orderCost, if_pos hord, sum_costs]
  omega
 have hs1 : T1 ≤ sumF (costAt N F) n ∧ sumF (costAt N F) n ≤ w * T1 := hG1.sum
 have hs2 : T2 ≤ sumF (costAt N F) n ∧ sumF (costAt N F) n ≤ 1 * T2 := hG2.sum
 have hm1 : spanTo (jobOf N n F) s1 n = T1 := hG1.mkspan
 have hm2 : spanTo (jobOf N n F) s2 n = T2 := hG2.mkspan
 have hcr : bTo (jobOf N n F) n ≤ T1 := bTo_le hJ hG1 n (Nat.le_refl _)
 have ht1 := hG1.t0
 have ht2 := hG2.t0
 have hen1 : ∀ k, k < n → 0 ≤ s1 k ∧ s1 k + costAt N F k ≤ T1 := hG1.en
 have hen2 : ∀ k, k < n → 0 ≤ s2 k ∧ s2 k + costAt N F k ≤ T2 := hG2.en
 have hb1 : ∀ i, i < n → 0 ≤ s1 i ∧ s1 i ≤ 10000000000 := fun i hi => by have := hen1 i hi; have := hcs i hi; omega
 have hb2 : ∀ i, i < n → 0 ≤ s2 i ∧ s2 i ≤ 10000000000 := fun i hi => by have := hen2 i hi; have := hcs i hi; omega
 have hok1 := ScheduleOk_d hz hF hord hS (by omega) (by omega) hG1
 have hok2 := ScheduleOk_d hz hF hord hS (by omega) (by omega) hG2
 have hmk1 := Makespan_d hz hF hord hS hb1
 have hmk2 := Makespan_d hz hF hord hS hb2
 rw [hm1] at hmk1
 rw [hm2] at hmk2
 have e1 : T2 = orderCost N n F := by omega
 have e2 : T1 ≥ bTo (jobOf N n F) n := hcr
 have e4 : T1 ≤ orderCost N n F := by omega
 have hp : 0 ≤ T1 * w ∧ T1 * w ≤ 12000000 * 4 := ⟨Int.mul_nonneg ht1 (by omega), Int.mul_le_mul (by omega) (by omega) (by omega) (by omega)⟩
 have e3 : T1 * w ≥ orderCost N n F := by rw [Int.mul_comm]; omega
 have hct := CriticalTime_d hz hF hord hS
 have hoc := iOrderCost_d hz hF
 unfold ints at hls1 hls2 hok1 hok2 hmk1 hmk2
 unfold bytes at *
 (refine spec_of (by kernel_rfl) Try.func3 k_laws_FnSchedules (fnOk (nb rfl) ?_); unfold C_laws_FnSchedules)
 (simp only [Nat.reduceSub, List.length_cons, List.length_nil, Nat.reduceAdd, ch_init1, ch_init2, ch_init3, ch_init4, ch_init5, ch_init6, ch_init7, ch_init8]; try simp only [ch_rep]); (simp only [go_sem, seval, reduceCtorEq, List.replicate])
 simp (disch := omega) only [go_sem, seval, reduceCtorEq, h0]
 (refine ti_call (hring) ?_ ?_ ?_; (focus (simp only [go_sem, seval, reduceCtorEq]; done)); (first | rfl | (focus (simp only [go_sem]; done))))
 simp only [go_sem, seval, reduceCtorEq]
 (refine ti_call (hnet) ?_ ?_ ?_; (focus (simp only [go_sem, seval, reduceCtorEq]; done)); (first | rfl | (focus (simp only [go_sem]; done))))
 simp only [go_sem, seval, reduceCtorEq]
 (refine ti_call (hmo) ?_ ?_ ?_; (focus (simp only [go_sem, seval, reduceCtorEq]; done)); (first | rfl | (focus (simp only [go_sem]; done))))
 simp only [go_sem, seval, reduceCtorEq]
 (refine ti_call (hms) ?_ ?_ ?_; (focus (simp only [go_sem, seval, reduceCtorEq]; done)); (first | rfl | (focus (simp only [go_sem]; done))))
 simp only [go_sem, seval, reduceCtorEq]
 (refine ti_call (hls1) ?_ ?_ ?_; (focus (simp only [go_sem, seval, reduceCtorEq]; done)); (first | rfl | (focus (simp only [go_sem]; done))))
 simp only [go_sem, seval, reduceCtorEq]
 (refine ti_call (hls2) ?_ ?_ ?_; (focus (simp only [go_sem, seval, reduceCtorEq]; done)); (first | rfl | (focus (simp only [go_sem]; done))))
 simp only [go_sem, seval, reduceCtorEq]
 (refine ti_call (hmk1) ?_ ?_ ?_; (focus (simp only [go_sem, seval, reduceCtorEq]; done)); (first | rfl | (focus (simp only [go_sem]; done))))
 simp only [go_sem, seval, reduceCtorEq]
 (refine ti_call (hoc) ?_ ?_ ?_; (focus (simp only [go_sem, seval, reduceCtorEq]; done)); (first | rfl | (focus (simp only [go_sem]; done))))
 simp only [go_sem, seval, reduceCtorEq]
 (refine ti_call (hok1) ?_ ?_ ?_; (focus (simp only [go_sem, seval, reduceCtorEq]; done)); (first | rfl | (focus (simp only [go_sem]; done))))
 simp only [go_sem, seval, reduceCtorEq]
 (refine ti_call (hok2) ?_ ?_ ?_; (focus (simp only [go_sem, seval, reduceCtorEq]; done)); (first | rfl | (focus (simp only [go_sem]; done))))
 simp only [go_sem, seval, reduceCtorEq]
 (refine ti_call (hmk2) ?_ ?_ ?_; (focus (simp only [go_sem, seval, reduceCtorEq]; done)); (first | rfl | (focus (simp only [go_sem]; done))))
 simp only [go_sem, seval, reduceCtorEq, e1]
 (refine ti_call (hct) ?_ ?_ ?_; (focus (simp only [go_sem, seval, reduceCtorEq]; done)); (first | rfl | (focus (simp only [go_sem]; done))))
 simp (disch := omega) only [go_sem, seval, reduceCtorEq, e2, e3, e4]
 (refine FnEnd.mk (nb rfl) rfl (of_decide_eq_true rfl) ?_ ?_ <;> try simp only [go_sem, seval, reduceCtorEq])
theorem law_Schedules (W : World) {v0 : Value} {b : List Int} (w0 : BytIn W v0 b) :
  Calls Try.prog 3 #[v0] W (RetV W (.bool true)) := by
 refine Does.calls (lawSchedules_d w0.len w0.wf) W [_] ?_
 simp only [RelL]
 exact ⟨_, _, rfl, w0.rel, rfl⟩
end Go.Proofs.Ytmkdphmjgfbjaaa
