/-
 Contracts: is a schedule right, and the critical time. No condition.
-/
import Derived.Test.YtmkdphmjgfbjaaaSchB
set_option linter.unusedSimpArgs false
set_option linter.unusedVariables false
namespace Go.Proofs.Ytmkdphmjgfbjaaa
open Go.RowKit Go.Lift Plain Sch
set_option maxRecDepth 100000
section
variable {N : Net} {n : Nat} {F : List Int}
def abAt (F : List Int) (k j : Nat) : Nat := if j = 0 then stA F k else stB F k
set_option maxHeartbeats 3200000 in
theorem ScheduleOk_d (h : NSz 1048576 N) (hF : StpSz 1048576 n F) (hok : orderOk N n F = true) (hS : Small N n F) {w T : Int} {s : Nat → Int} (hw : 1 ≤ w ∧ w ≤ 8) (hT : T ≤ 1000000000) (hG : Sch.Good (jobOf N n F) w T s) :
  Does Try.prog 11 [netA N, .d (stp n F), .d (.int w), .d (ints (lf n s))] [] (.d (.bool true)) [] := by
 have hn := hF.n
 have hFl := hF.l
 have hn2 := hS.hn
 have hm2 := hS.hm
 have h2 := (orderOk_iff.1 hok).2.1
 have h12 := (netOk_iff.1 (orderOk_iff.1 hok).1).2.1
 have hl := lf_len n s
 have hcl := costsTo_len (N := N) (F := F) n
 have hcs : ∀ k, k < n → 1 ≤ costAt N F k ∧ costAt N F k ≤ 1000000 := hS.hc
 have hen : ∀ k, k < n → 0 ≤ s k ∧ s k + costAt N F k ≤ T := hG.en
 have hsb : ∀ i, i < n → 0 ≤ s i ∧ s i ≤ 10000000000 := fun i hi => by have := hen i hi; have := hcs i hi; omega
 have hcap : ∀ k, k < n → cntF (onB (jobOf N n F) s (s k)) n ≤ w := hG.cap
 have c1 : ¬ w < 1 := by omega
 have c2 : ¬ w > 8 := by omega
 (refine spec_of (by kernel_rfl) Try.func11 k_impl_ScheduleOk (fnOk (nb rfl) ?_); unfold C_impl_ScheduleOk)
 (simp only [Nat.reduceSub, List.length_cons, List.length_nil, Nat.reduceAdd, ch_init1, ch_init2, ch_init3, ch_init4, ch_init5, ch_init6, ch_init7, ch_init8]; try simp only [ch_rep]); (simp only [go_sem, seval, reduceCtorEq, List.replicate])
 (refine ti_call (iOrderOk_d h hF) ?_ ?_ ?_; (focus (simp only [go_sem, seval, reduceCtorEq]; done)); (first | rfl | (focus (simp only [go_sem]; done))))
 simp only [go_sem, seval, reduceCtorEq, hok, c1, c2]
 (refine ti_call (timesOk_d hF hsb) ?_ ?_ ?_; (focus (simp only [go_sem, seval, reduceCtorEq]; done)); (first | rfl | (focus (simp only [go_sem]; done))))
 simp only [go_sem, seval, reduceCtorEq]
 (refine ti_call (iOrderCosts_d h hF hok) ?_ ?_ ?_; (focus (simp only [go_sem, seval, reduceCtorEq]; done)); (first | rfl | (focus (simp only [go_sem]; done))))
 simp (disch := omega) only [go_sem, seval, reduceCtorEq]
 refine wpN_lp (n) (mkB 119 664613997892457936451885937954248960) (fun k => [(43, .d (.int k))]) (fun k => []) (h1 := by first | (simp only [go_sem, seval, reduceCtorEq, nz, na, n1]; first | done | rfl) | rfl) (h2 := by first | (simp only [go_sem, seval, reduceCtorEq, nz, na, n1]; first | done | rfl) | rfl) (hr := fun k hk => ?_)
 unfold L2_impl_ScheduleOk
 by_cases hlt : k < n
 ·have d1 : (k : Int) < n := by omega
  have g := stp_cut hF hlt
  have hst := ordStep hok hlt
  have hab := st_lt hok hlt
  rw [hst.a, hst.b] at g
  simp (disch := omega) only [go_sem, seval, reduceCtorEq, d1, g, dv_two]
  (repeat (refine And.intro (by omega) ?_))
  have hdep : ∀ j, j < 2 → endB (jobOf N n F) s (s k) (abAt F k j) = true ∧ abAt F k j < N.ts.length + k := fun j hj => by
   have hd := hG.dep k hlt
   unfold abAt
   split
   ·exact ⟨hd.1, hab.1⟩
   ·exact ⟨hd.2, hab.2⟩
  have gk := lf_get s hlt
  have bk := hsb k hlt
  have hck := hcap k hlt
  refine wpN_lp (2) (mkB 119 4835703242429719679877376) (fun j => [(54, .d (.int j))]) (fun j => []) (h1 := by first | (simp only [go_sem, seval, reduceCtorEq, nz, na, n1]; first | done | rfl) | rfl) (h2 := by first | (simp only [go_sem, seval, reduceCtorEq, nz, na, n1]; first | done | rfl) | rfl) (hr := fun j hj => ?_)
  unfold L1_impl_ScheduleOk
  by_cases hj2 : j < 2
  ·have d2 : (j : Int) < 2 := by omega
   have gj : [AV.d (.int (stA F k)), AV.d (.int (stB F k))][j]? = some (.d (.int (abAt F k j))) := by
    match j, hj2 with
    | 0, _ => rfl
    | 1, _ => rfl
   obtain ⟨he, hx⟩ := hdep j hj2
   have he := endB_iff.1 he
   generalize abAt F k j = x at *
   by_cases x1 : (x : Int) ≥ N.ts.length
   ·obtain ⟨y, hy⟩ : ∃ y : Nat, x = N.ts.length + y := ⟨x - N.ts.length, by omega⟩
    have hyn : y < n := by omega
    have ey : (x : Int) - N.ts.length = y := by omega
    have en : x - N.ts.length = y := by omega
    rw [en] at he
    have g1 := lf_get s hyn
    have g2 : (costsTo N F n)[y]? = some (costAt N F y) := lf_get _ hyn
    have b1 := hsb y hyn
    have b2 := hcs y hyn
    have x2 : ¬ s y + costAt N F y > s k := by omega
    simp (disch := omega) only [go_sem, seval, reduceCtorEq, d2, gj, x1, ey, g1, g2, gk, hl, hcl, x2]
    (repeat (refine And.intro (by omega) ?_))
    (refine Next.drop (mkB 119 4835703242429719679877376) (by omega) (h1 := ?_) (h2 := ?_) <;> first | (simp only [go_sem, seval, reduceCtorEq, nz, na, n1]; first | done | rfl) | rfl | skip)
   ·simp (disch := omega) only [go_sem, seval, reduceCtorEq, d2, gj, x1]
    (repeat (refine And.intro (by omega) ?_))
    (refine Next.drop (mkB 119 4835703242429719679877376) (by omega) (h1 := ?_) (h2 := ?_) <;> first | (simp only [go_sem, seval, reduceCtorEq, nz, na, n1]; first | done | rfl) | rfl | skip)
  ·have d2 : ¬ (j : Int) < 2 := by omega
   obtain rfl : j = 2 := by omega
   have hz : cntF (onB (jobOf N n F) s (s k)) 0 = 0 := rfl
   simp (disch := omega) only [go_sem, seval, reduceCtorEq, d2]
   refine wpN_lp (n) (mkB 119 41538374829592994800575837043228672) (fun i => [(15, .d (.int (cntF (onB (jobOf N n F) s (s k)) i))), (84, .d (.int i))]) (fun i => []) (h1 := by first | (simp only [go_sem, seval, reduceCtorEq, nz, na, n1, hz]; first | done | rfl) | rfl) (h2 := by first | (simp only [go_sem, seval, reduceCtorEq, nz, na, n1, hz]; first | done | rfl) | rfl) (hr := fun i hi => ?_)
   unfold L0_impl_ScheduleOk
   by_cases hin : i < n
   ·have d3 : (i : Int) < n := by omega
    have g1 := lf_get s hin
    have g2 : (costsTo N F n)[i]? = some (costAt N F i) := lf_get _ hin
    have b1 := hsb i hin
    have b2 := hcs i hin
    have b3 := cntF_le (onB (jobOf N n F) s (s k)) i
    have ej : cntF (onB (jobOf N n F) s (s k)) (i + 1) = cntF (onB (jobOf N n F) s (s k)) i + (if onB (jobOf N n F) s (s k) i = true then 1 else 0) := rfl
    have er : onB (jobOf N n F) s (s k) i = true ↔ s i ≤ s k ∧ s k < s i + costAt N F i := decide_eq_true_iff
    by_cases x1 : s i ≤ s k
    ·by_cases x2 : s k < s i + costAt N F i
     ·rw [if_pos (er.2 ⟨x1, x2⟩)] at ej
      simp (disch := omega) only [go_sem, seval, reduceCtorEq, d3, g1, g2, gk, x1, x2, hl, hcl]
      (repeat (refine And.intro (by omega) ?_))
      (refine Next.drop (mkB 119 41538374829592994800575837043228672) (by omega) (h1 := ?_) (h2 := ?_) <;> first | (simp only [go_sem, seval, reduceCtorEq, nz, na, n1, ej]; first | done | rfl) | rfl | skip)
     ·rw [if_neg fun e => x2 (er.1 e).2, Int.add_zero] at ej
      simp (disch := omega) only [go_sem, seval, reduceCtorEq, d3, g1, g2, gk, x1, x2, hl, hcl]
      (repeat (refine And.intro (by omega) ?_))
      (refine Next.drop (mkB 119 41538374829592994800575837043228672) (by omega) (h1 := ?_) (h2 := ?_) <;> first | (simp only [go_sem, seval, reduceCtorEq, nz, na, n1, ej]; first | done | rfl) | rfl | skip)
    ·rw [if_neg fun e => x1 (er.1 e).1, Int.add_zero] at ej
     simp (disch := omega) only [go_sem, seval, reduceCtorEq, d3, g1, g2, gk, x1, hl, hcl]
     (repeat (refine And.intro (by omega) ?_))
     (refine Next.drop (mkB 119 41538374829592994800575837043228672) (by omega) (h1 := ?_) (h2 := ?_) <;> first | (simp only [go_sem, seval, reduceCtorEq, nz, na, n1, ej]; first | done | rfl) | rfl | skip)
   ·have d3 : ¬ (i : Int) < n := by omega
    obtain rfl : n = i := by omega
    have x3 : ¬ cntF (onB (jobOf N n F) s (s k)) n > w := by omega
    simp (disch := omega) only [go_sem, seval, reduceCtorEq, d3, x3]
    (refine Next.drop (mkB 119 664613997892457936451885937954248960) (by omega) (h1 := ?_) (h2 := ?_) <;> first | (simp only [go_sem, seval, reduceCtorEq, nz, na, n1]; first | done | rfl) | rfl | skip)
 ·have d1 : ¬ (k : Int) < n := by omega
  simp (disch := omega) only [go_sem, seval, reduceCtorEq, d1]
  (refine FnEnd.mk (nb rfl) rfl (of_decide_eq_true rfl) ?_ ?_ <;> try simp only [go_sem, seval, reduceCtorEq])
def befJ (N : Net) (n : Nat) (F : List Int) (k : Nat) : Nat → Int
 | 0 => 0
 | j + 1 => bef (jobOf N n F) (eTo (jobOf N n F) k) (abAt F k j) (befJ N n F k j)
set_option maxHeartbeats 3200000 in
theorem CriticalTime_d (h : NSz 1048576 N) (hF : StpSz 1048576 n F) (hok : orderOk N n F = true) (hS : Small N n F) :
  Does Try.prog 12 [netA N, .d (stp n F)] [] (.d (.int (bTo (jobOf N n F) n))) [] := by
 have hn := hF.n
 have hFl := hF.l
 have hn2 := hS.hn
 have hm2 := hS.hm
 have hJ := jobOk hok
 have h2 := (orderOk_iff.1 hok).2.1
 have h12 := (netOk_iff.1 (orderOk_iff.1 hok).1).2.1
 have hcl := costsTo_len (N := N) (F := F) n
 have hcs : ∀ k, k < n → 1 ≤ costAt N F k ∧ costAt N F k ≤ 1000000 := hS.hc
 have hbd : ∀ k, k ≤ n → ∀ i, i < n → 0 ≤ eTo (jobOf N n F) k i ∧ eTo (jobOf N n F) k i ≤ 2000000000 := fun k hk i hi => by
  have := eTo_bd (J := jobOf N n F) (fun k hk => by have := hcs k hk; show 0 ≤ costAt N F k ∧ costAt N F k ≤ 1000000; omega) hJ k hk i hi
  split at this <;> omega
 have hz : bTo (jobOf N n F) 0 = 0 := rfl
 have hz2 : costsTo N F n = lf n (eTo (jobOf N n F) 0) := nr rfl
 (refine spec_of (by kernel_rfl) Try.func12 k_impl_CriticalTime (fnOk (nb rfl) ?_); unfold C_impl_CriticalTime)
 (simp only [Nat.reduceSub, List.length_cons, List.length_nil, Nat.reduceAdd, ch_init1, ch_init2, ch_init3, ch_init4, ch_init5, ch_init6, ch_init7, ch_init8]; try simp only [ch_rep]); (simp only [go_sem, seval, reduceCtorEq, List.replicate])
 (refine ti_call (iOrderOk_d h hF) ?_ ?_ ?_; (focus (simp only [go_sem, seval, reduceCtorEq]; done)); (first | rfl | (focus (simp only [go_sem]; done))))
 simp only [go_sem, seval, reduceCtorEq, hok]
 (refine ti_call (iOrderCosts_d h hF hok) ?_ ?_ ?_; (focus (simp only [go_sem, seval, reduceCtorEq]; done)); (first | rfl | (focus (simp only [go_sem]; done))))
 simp (disch := omega) only [go_sem, seval, reduceCtorEq]
 rw [hz2]
 refine wpN_lp (n) (mkB 67 73786976294771103488) (fun k => [(6, .d (.int (bTo (jobOf N n F) k))), (25, .d (.int k))]) (fun k => [(1, iv (lf n (eTo (jobOf N n F) k)))]) (h1 := by first | (simp only [go_sem, seval, reduceCtorEq, nz, na, n1, hz]; first | done | rfl) | rfl) (h2 := by first | (simp only [go_sem, seval, reduceCtorEq, nz, na, n1, hz]; first | done | rfl) | rfl) (hr := fun k hk => ?_)
 unfold L1_impl_CriticalTime
 have hl := lf_len n (eTo (jobOf N n F) k)
 by_cases hlt : k < n
 ·have d1 : (k : Int) < n := by omega
  have g := stp_cut hF hlt
  have hst := ordStep hok hlt
  have hab := st_lt hok hlt
  rw [hst.a, hst.b] at g
  simp (disch := omega) only [go_sem, seval, reduceCtorEq, d1, g, dv_two]
  (repeat (refine And.intro (by omega) ?_))
  have hx : ∀ j, j < 2 → abAt F k j < N.ts.length + k := fun j hj => by
   unfold abAt
   split
   ·exact hab.1
   ·exact hab.2
  have hbj : ∀ j, j ≤ 2 → 0 ≤ befJ N n F k j ∧ befJ N n F k j ≤ 2000000000 := fun j hj => by
   have hb1 : ∀ x v, x < N.ts.length + k → 0 ≤ v ∧ v ≤ 2000000000 → 0 ≤ bef (jobOf N n F) (eTo (jobOf N n F) k) x v ∧ bef (jobOf N n F) (eTo (jobOf N n F) k) x v ≤ 2000000000 := fun x v hx hv => by
    unfold bef
    split
    ·rename_i hm
     have hm' : N.ts.length ≤ x := hm
     have := hbd k (by omega) (x - N.ts.length) (by omega)
     show 0 ≤ max v (eTo (jobOf N n F) k (x - N.ts.length)) ∧ max v (eTo (jobOf N n F) k (x - N.ts.length)) ≤ 2000000000
     omega
    ·exact hv
   match j, hj with
   | 0, _ => exact ⟨Int.le_refl _, show (0 : Int) ≤ 2000000000 by decide⟩
   | 1, _ => exact hb1 _ 0 (hx 0 (by omega)) (by decide)
   | 2, _ => exact hb1 _ _ (hx 1 (by omega)) (hb1 _ 0 (hx 0 (by omega)) (by decide))
  have hz3 : befJ N n F k 0 = 0 := rfl
  refine wpN_lp (2) (mkB 67 4503462188421120) (fun j => [(10, .d (.int (befJ N n F k j))), (36, .d (.int j))]) (fun j => []) (h1 := by first | (simp only [go_sem, seval, reduceCtorEq, nz, na, n1, hz3]; first | done | rfl) | rfl) (h2 := by first | (simp only [go_sem, seval, reduceCtorEq, nz, na, n1, hz3]; first | done | rfl) | rfl) (hr := fun j hj => ?_)
  unfold L0_impl_CriticalTime
  by_cases hj2 : j < 2
  ·have d2 : (j : Int) < 2 := by omega
   have gj : [AV.d (.int (stA F k)), AV.d (.int (stB F k))][j]? = some (.d (.int (abAt F k j))) := by
    match j, hj2 with
    | 0, _ => rfl
    | 1, _ => rfl
   have ej : befJ N n F k (j + 1) = if N.ts.length ≤ abAt F k j then max (befJ N n F k j) (eTo (jobOf N n F) k (abAt F k j - N.ts.length)) else befJ N n F k j := rfl
   have hx' := hx j hj2
   have hb' := hbj j (by omega)
   generalize abAt F k j = x at *
   by_cases x1 : (x : Int) ≥ N.ts.length
   ·obtain ⟨y, hy⟩ : ∃ y : Nat, x = N.ts.length + y := ⟨x - N.ts.length, by omega⟩
    have hyn : y < n := by omega
    have ey : (x : Int) - N.ts.length = y := by omega
    have en : x - N.ts.length = y := by omega
    rw [if_pos (by omega), en] at ej
    have g1 := lf_get (eTo (jobOf N n F) k) hyn
    have b1 := hbd k (by omega) y hyn
    have em : max (befJ N n F k j) (eTo (jobOf N n F) k y) = befJ N n F k (j + 1) := ej.symm
    simp (disch := omega) only [go_sem, seval, reduceCtorEq, d2, gj, x1, ey, g1, hl]
    (repeat (refine And.intro (by omega) ?_))
    (refine Next.drop (mkB 67 4503462188421120) (by omega) (h1 := ?_) (h2 := ?_) <;> first | (simp only [go_sem, seval, reduceCtorEq, nz, na, n1, em]; first | done | rfl) | rfl | skip)
   ·rw [if_neg (by omega)] at ej
    simp (disch := omega) only [go_sem, seval, reduceCtorEq, d2, gj, x1]
    (repeat (refine And.intro (by omega) ?_))
    (refine Next.drop (mkB 67 4503462188421120) (by omega) (h1 := ?_) (h2 := ?_) <;> first | (simp only [go_sem, seval, reduceCtorEq, nz, na, n1, ej]; first | done | rfl) | rfl | skip)
  ·have d2 : ¬ (j : Int) < 2 := by omega
   obtain rfl : j = 2 := by omega
   have gk := lf_get (eTo (jobOf N n F) k) hlt
   have bk := hbd k (by omega) k hlt
   have b2 := hbj 2 (by omega)
   have ek : eTo (jobOf N n F) (k + 1) = up1 (eTo (jobOf N n F) k) k (eTo (jobOf N n F) k k + befJ N n F k 2) := rfl
   have eb : bTo (jobOf N n F) (k + 1) = max (bTo (jobOf N n F) k) (eTo (jobOf N n F) (k + 1) k) := rfl
   have hu := lf_mid (eTo (jobOf N n F) k) (eTo (jobOf N n F) k k + befJ N n F k 2) hlt
   rw [← ek] at hu
   have gk' := lf_get (eTo (jobOf N n F) (k + 1)) hlt
   have hl' := lf_len n (eTo (jobOf N n F) (k + 1))
   have em : max (eTo (jobOf N n F) (k + 1) k) (bTo (jobOf N n F) k) = bTo (jobOf N n F) (k + 1) := by rw [eb]; omega
   simp (disch := omega) only [go_sem, seval, reduceCtorEq, d2, gk, hl, hu]
   (repeat (refine And.intro (by omega) ?_))
   simp (disch := omega) only [go_sem, seval, reduceCtorEq, gk', hl', hu]
   (repeat (refine And.intro (by omega) ?_))
   (refine Next.drop (mkB 67 73786976294771103488) (by omega) (h1 := ?_) (h2 := ?_) <;> first | (simp only [go_sem, seval, reduceCtorEq, nz, na, n1, em]; first | done | rfl) | rfl | skip)
 ·have d1 : ¬ (k : Int) < n := by omega
  obtain rfl : n = k := by omega
  simp (disch := omega) only [go_sem, seval, reduceCtorEq, d1]
  (refine FnEnd.mk (nb rfl) rfl (of_decide_eq_true rfl) ?_ ?_ <;> try simp only [go_sem, seval, reduceCtorEq])
end
end Go.Proofs.Ytmkdphmjgfbjaaa
