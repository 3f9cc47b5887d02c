/-
 Contracts: schedules, what the caught function says, times and makespans. No condition.
-/
import Derived.Test.YtmkdphmjgfbjaaaMgSchedulesA
import Derived.Test.YtmkdphmjgfbjaaaOrdT
import Derived.Test.YtmkdphmjgfbjaaaSchA
import Derived.Test.YtmkdphmjgfbjaaaGenG
set_option linter.unusedSimpArgs false
set_option linter.unusedVariables false
namespace Go.Proofs.Ytmkdphmjgfbjaaa
open Go.RowKit Go.Lift Plain Sch
set_option maxRecDepth 100000
def lf (n : Nat) (s : Nat → Int) : List Int := (List.range n).map s
theorem lf_len (n : Nat) (s : Nat → Int) : (lf n s).length = n := by simp [lf]
theorem lf_get {n k : Nat} (s : Nat → Int) (h : k < n) : (lf n s)[k]? = some (s k) := by simp [lf, h]
theorem lf_congr {n : Nat} {s u : Nat → Int} (h : ∀ i, i < n → s i = u i) : lf n s = lf n u := List.map_congr_left fun i hi => h i (List.mem_range.1 hi)
theorem lf_rep (n : Nat) (x : Int) : List.replicate n x = lf n fun _ => x := by rw [lf, List.map_const', List.length_range]
theorem lf_mid {n k : Nat} (s : Nat → Int) (v : Int) (h : k < n) : (lf n s).take k ++ [v] ++ (lf n s).drop (k + 1) = lf n (up1 s k v) := by
 have : (lf n s).set k v = lf n (up1 s k v) := by
  apply List.ext_getElem?
  intro i
  by_cases hi : i < n
  ·rw [lf_get _ hi, List.getElem?_set, lf_len]
   by_cases e : k = i
   ·subst e; rw [if_pos rfl, if_pos hi, up1_same]
   ·rw [if_neg e, lf_get _ hi, up1_ne (Ne.symm e)]
  ·have e1 : (lf n (up1 s k v)).length ≤ i := by rw [lf_len]; omega
   have e2 : ((lf n s).set k v).length ≤ i := by rw [List.length_set, lf_len]; omega
   rw [List.getElem?_eq_none e1, List.getElem?_eq_none e2]
 rw [← this, List.set_eq_take_append_cons_drop, if_pos (by rw [lf_len]; exact h)]
 simp
def jobOf (N : Net) (n : Nat) (F : List Int) : Job := ⟨N.ts.length, n, costAt N F, stA F, stB F⟩
section
variable {N : Net} {n : Nat} {F : List Int}
theorem st_lt (h : orderOk N n F = true) {k : Nat} (hk : k < n) : stA F k < N.ts.length + k ∧ stB F k < N.ts.length + k := by
 have hs := ordStep h hk
 have ho := (ordOk h k (by omega)).ok.n
 have h1 := (nums_mem.1 hs.ma).1
 have h2 := (nums_mem.1 hs.mb).1
 omega
theorem jobOk (h : orderOk N n F = true) : (jobOf N n F).Ok :=
 ⟨fun k hk => (costAt_bd h (Nat.le_of_lt hk)).1, fun k hk => (st_lt h hk).1, fun k hk => (st_lt h hk).2⟩
structure Small (N : Net) (n : Nat) (F : List Int) : Prop where
 hn : n ≤ 1000
 hm : N.ts.length ≤ 1000
 hc : ∀ k, k < n → 1 ≤ costAt N F k ∧ costAt N F k ≤ 1000000
theorem Small.len (h : Small N n F) {w t : Int} {s : Nat → Int} {q : Nat} (hI : Inv (jobOf N n F) w t s q) : t ≤ n * 1000000 := by
 have h1 := hI.wk.1
 have h2 := sumF_le (f := wkF (jobOf N n F) s t) (M := 1000000) (n := n) fun i hi => by
  have h3 := hI.le i hi
  have h4 := h.hc i hi
  have h5 : (jobOf N n F).c i = costAt N F i := rfl
  unfold wkF
  rw [h5]
  split <;> omega
 exact Int.le_trans h1 h2.2
theorem endB_iff {s : Nat → Int} {t : Int} {x : Nat} : endB (jobOf N n F) s t x = true ↔ x < N.ts.length ∨ 0 ≤ s (x - N.ts.length) ∧ s (x - N.ts.length) + costAt N F (x - N.ts.length) ≤ t := by
 rw [endB, Bool.or_eq_true, finB, decide_eq_true_iff, decide_eq_true_iff]
 exact Iff.rfl
theorem ended_d (h : Small N n F) {s : Nat → Int} {x : Nat} {t : Int} (hx : x < N.ts.length + n) (hs : ∀ i, i < n → -1 ≤ s i ∧ s i ≤ 10000000000) :
  Does Try.prog 20 [.d (.int x), .d (.int t), .rptr [.int N.ts.length] 0, .rptr [ints (lf n s)] 0, .rptr [ints (costsTo N F n)] 0] [] (.d (.bool (endB (jobOf N n F) s t x))) [] := by
 have hm := h.hm
 have hn := h.hn
 (refine spec_ofW _ (by kernel_rfl) Try.func20 k_impl_ListSchedule_c1 (fnOk (nb rfl) ?_); unfold C_impl_ListSchedule_c1)
 unfold ints
 (simp only [Nat.reduceSub, List.length_cons, List.length_nil, Nat.reduceAdd, ch_init1, ch_init2, ch_init3, ch_init4, ch_init5, ch_init6, ch_init7, ch_init8]; try simp only [ch_rep]); (simp only [go_sem, seval, reduceCtorEq, List.replicate])
 by_cases h1 : (x : Int) < N.ts.length
 ·have e : endB (jobOf N n F) s t x = true := endB_iff.2 (.inl (by omega))
  simp (disch := omega) only [go_sem, seval, reduceCtorEq, h1, e]
  (repeat (refine And.intro (by omega) ?_))
  (refine FnEnd.mk (nb rfl) rfl (of_decide_eq_true rfl) ?_ ?_ <;> try simp only [go_sem, seval, reduceCtorEq])
 obtain ⟨y, hy⟩ : ∃ y : Nat, x = N.ts.length + y := ⟨x - N.ts.length, by omega⟩
 have hyn : y < n := by omega
 have ey : (x : Int) - N.ts.length = y := by omega
 have en : x - N.ts.length = y := by omega
 have g1 := lf_get s hyn
 have g2 : (costsTo N F n)[y]? = some (costAt N F y) := lf_get _ hyn
 have b1 := hs y hyn
 have b2 := h.hc y hyn
 have hl := lf_len n s
 have hcl := costsTo_len (N := N) (F := F) n
 by_cases h2 : s y ≥ 0
 ·by_cases h3 : s y + costAt N F y ≤ t
  ·have e : endB (jobOf N n F) s t x = true := endB_iff.2 (.inr (by rw [en]; omega))
   simp (disch := omega) only [go_sem, seval, reduceCtorEq, h1, ey, g1, g2, h2, h3, e, hl, hcl]
   (repeat (refine And.intro (by omega) ?_))
   (refine FnEnd.mk (nb rfl) rfl (of_decide_eq_true rfl) ?_ ?_ <;> try simp only [go_sem, seval, reduceCtorEq])
  ·have e : endB (jobOf N n F) s t x = false := by rw [Bool.eq_false_iff]; intro h'; have := endB_iff.1 h'; rw [en] at this; omega
   simp (disch := omega) only [go_sem, seval, reduceCtorEq, h1, ey, g1, g2, h2, h3, e, hl, hcl]
   (repeat (refine And.intro (by omega) ?_))
   (refine FnEnd.mk (nb rfl) rfl (of_decide_eq_true rfl) ?_ ?_ <;> try simp only [go_sem, seval, reduceCtorEq])
 ·have e : endB (jobOf N n F) s t x = false := by rw [Bool.eq_false_iff]; intro h'; have := endB_iff.1 h'; rw [en] at this; omega
  simp (disch := omega) only [go_sem, seval, reduceCtorEq, h1, ey, g1, g2, h2, e, hl, hcl]
  (repeat (refine And.intro (by omega) ?_))
  (refine FnEnd.mk (nb rfl) rfl (of_decide_eq_true rfl) ?_ ?_ <;> try simp only [go_sem, seval, reduceCtorEq])
theorem timesOk_d (hF : StpSz 1048576 n F) {s : Nat → Int} (hs : ∀ i, i < n → 0 ≤ s i ∧ s i ≤ 10000000000) :
  Does Try.prog 21 [.d (stp n F), .d (ints (lf n s))] [] (.d (.bool true)) [] := by
 have hn := hF.n
 have hl := lf_len n s
 (refine spec_of (by kernel_rfl) Try.func21 k_impl_timesOk (fnOk (nb rfl) ?_); unfold C_impl_timesOk)
 unfold ints
 (simp only [Nat.reduceSub, List.length_cons, List.length_nil, Nat.reduceAdd, ch_init1, ch_init2, ch_init3, ch_init4, ch_init5, ch_init6, ch_init7, ch_init8]; try simp only [ch_rep]); (simp only [go_sem, seval, reduceCtorEq, List.replicate])
 simp (disch := omega) only [go_sem, seval, reduceCtorEq, hl]
 refine wpN_lp (n) (mkB 25 33521744) (fun k => [(14, .d (.int k))]) (fun k => []) (h1 := by first | (simp only [go_sem, seval, reduceCtorEq, nz, na, n1, hl]; first | done | rfl) | rfl) (h2 := by first | (simp only [go_sem, seval, reduceCtorEq, nz, na, n1, hl]; first | done | rfl) | rfl) (hr := fun k hk => ?_)
 unfold L0_impl_timesOk
 by_cases hlt : k < n
 ·have d1 : (k : Int) < n := by omega
  have g := lf_get s hlt
  have b := hs k hlt
  have h1 : ¬ s k < 0 := by omega
  have h2 : ¬ s k > 1000000000000 := by omega
  simp (disch := omega) only [go_sem, seval, reduceCtorEq, d1, g, h1, h2]
  (refine Next.drop (mkB 25 33521744) (by omega) (h1 := ?_) (h2 := ?_) <;> first | (simp only [go_sem, seval, reduceCtorEq, nz, na, n1]; first | done | rfl) | rfl | skip)
 ·have d1 : ¬ (k : Int) < n := by omega
  simp (disch := omega) only [go_sem, seval, reduceCtorEq, d1]
  (refine FnEnd.mk (nb rfl) rfl (of_decide_eq_true rfl) ?_ ?_ <;> try simp only [go_sem, seval, reduceCtorEq])
theorem Makespan_d (h : NSz 1048576 N) (hF : StpSz 1048576 n F) (hok : orderOk N n F = true) (hS : Small N n F) {s : Nat → Int} (hs : ∀ i, i < n → 0 ≤ s i ∧ s i ≤ 10000000000) :
  Does Try.prog 9 [netA N, .d (stp n F), .d (ints (lf n s))] [] (.d (.int (spanTo (jobOf N n F) s n))) [] := by
 have hn := hF.n
 have hl := lf_len n s
 have hcl := costsTo_len (N := N) (F := F) n
 have h2 := (orderOk_iff.1 hok).2.1
 have h12 := (netOk_iff.1 (orderOk_iff.1 hok).1).2.1
 (refine spec_of (by kernel_rfl) Try.func9 k_impl_Makespan (fnOk (nb rfl) ?_); unfold C_impl_Makespan)
 (simp only [Nat.reduceSub, List.length_cons, List.length_nil, Nat.reduceAdd, ch_init1, ch_init2, ch_init3, ch_init4, ch_init5, ch_init6, ch_init7, ch_init8]; try simp only [ch_rep]); (simp only [go_sem, seval, reduceCtorEq, List.replicate])
 (refine ti_call (iOrderOk_d h hF) ?_ ?_ ?_; (focus (simp only [go_sem, seval, reduceCtorEq]; done)); (first | rfl | (focus (simp only [go_sem]; done))))
 simp only [go_sem, seval, reduceCtorEq, hok]
 (refine ti_call (timesOk_d hF hs) ?_ ?_ ?_; (focus (simp only [go_sem, seval, reduceCtorEq]; done)); (first | rfl | (focus (simp only [go_sem]; done))))
 simp only [go_sem, seval, reduceCtorEq]
 (refine ti_call (iOrderCosts_d h hF hok) ?_ ?_ ?_; (focus (simp only [go_sem, seval, reduceCtorEq]; done)); (first | rfl | (focus (simp only [go_sem]; done))))
 simp only [go_sem, seval, reduceCtorEq]
 have hz : spanTo (jobOf N n F) s 0 = 0 := rfl
 refine wpN_lp (n) (mkB 39 274844353280) (fun k => [(7, .d (.int (spanTo (jobOf N n F) s k))), (24, .d (.int k))]) (fun k => []) (h1 := by first | (simp only [go_sem, seval, reduceCtorEq, nz, na, n1, hz]; first | done | rfl) | rfl) (h2 := by first | (simp only [go_sem, seval, reduceCtorEq, nz, na, n1, hz]; first | done | rfl) | rfl) (hr := fun k hk => ?_)
 unfold L0_impl_Makespan
 by_cases hlt : k < n
 ·have d1 : (k : Int) < n := by omega
  have g := lf_get s hlt
  have g2 : (costsTo N F n)[k]? = some (costAt N F k) := lf_get _ hlt
  have b := hs k hlt
  have b2 := hS.hc k hlt
  have e : spanTo (jobOf N n F) s (k + 1) = max (spanTo (jobOf N n F) s k) (s k + costAt N F k) := rfl
  have e2 : max (s k + costAt N F k) (spanTo (jobOf N n F) s k) = spanTo (jobOf N n F) s (k + 1) := by rw [e]; omega
  simp (disch := omega) only [go_sem, seval, reduceCtorEq, d1, g, g2, hl, hcl]
  (refine Next.drop (mkB 39 274844353280) (by omega) (h1 := ?_) (h2 := ?_) <;> first | (simp only [go_sem, seval, reduceCtorEq, nz, na, n1, e2, e]; first | done | rfl) | rfl | skip)
 ·have d1 : ¬ (k : Int) < n := by omega
  obtain rfl : k = n := by omega
  simp (disch := omega) only [go_sem, seval, reduceCtorEq, d1]
  (refine FnEnd.mk (nb rfl) rfl (of_decide_eq_true rfl) ?_ ?_ <;> try simp only [go_sem, seval, reduceCtorEq])
end
section
variable {N : Net} {n : Nat} {F : List Int}
theorem Gen6.small (h : Gen6 N) (hok : orderOk N n F = true) : Small N n F := by
 obtain ⟨h1, h2, _⟩ := orderOk_iff.1 hok
 have h12 := (netOk_iff.1 h1).2.1
 refine ⟨by omega, by omega, fun k hk => ⟨(costAt_bd hok (Nat.le_of_lt hk)).1, ?_⟩⟩
 have ho := ordOk hok k (Nat.le_of_lt hk)
 obtain ⟨hjn, hjx, _⟩ := ho.ok.join (stA F k) (stB F k)
 have hjT := ho.t.join (a := stA F k) (b := stB F k)
 have hat : ∀ x ∈ joinL ((ordS N F k).lab (stA F k)) ((ordS N F k).lab (stB F k)), atT (dimsR N.ts).1 x = dimL x ∧ 0 ≤ x ∧ x < 6 := fun x hx => by
  have e : atT (dimsR N.ts).1 x = dimN N.ts x := (dimsR_ok (netOk_ax h1)).2 ((dimsR_ok (netOk_ax h1)).1.2 (netOk_iff.1 h1).2.2.2.1) x (hjx x hx)
  have h3 := (hjT x hx).1
  obtain ⟨t, ht, hxt⟩ := labP_ten (ts := N.ts) (x := x) (by omega)
  refine ⟨?_, (h.six t ht).bd x hxt⟩
  rcases dimN_6 h.six x with e2 | e2 <;> omega
 have hc : costAt N F k = min (prodI ((joinL ((ordS N F k).lab (stA F k)) ((ordS N F k).lab (stB F k))).map (atT (dimsR N.ts).1))) 1000000000 := rfl
 generalize joinL ((ordS N F k).lab (stA F k)) ((ordS N F k).lab (stB F k)) = J at *
 have hm : J.map (atT (dimsR N.ts).1) = dimsL J := List.map_congr_left fun x hx => (hat x hx).1
 have := prod6 (len6 hjn fun x hx => (hat x hx).2)
 rw [hc, hm]
 omega
theorem sum_costs : ∀ n, sumI (costsTo N F n) = sumF (costAt N F) n
 | 0 => rfl
 | n + 1 => by
  rw [costsTo_next, sumI_app, sumF, sum_costs n]
  simp only [sumI_cons, sumI_nil]
  omega
end
end Go.Proofs.Ytmkdphmjgfbjaaa
