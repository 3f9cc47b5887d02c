/-
 Contract: list schedules. No condition.
-/
import Derived.Test.YtmkdphmjgfbjaaaSchB
set_option linter.unusedSimpArgs false
set_option linter.unusedVariables false
namespace Go.Proofs.Ytmkdphmjgfbjaaa
open Go.RowKit Go.Lift Plain Sch
set_option maxRecDepth 100000
namespace Sch
variable {J : Job} {w : Int}
def nxR (J : Job) (w : Int) (q : Nat) : Int := nxt J (rnd J w q).1 (goS J w (rnd J w q).1 (rnd J w q).2) J.n
theorem rnd_inv (hJ : J.Ok) (hw : 1 ≤ w) : ∀ k, (∀ p, p < k → 0 ≤ nxR J w p) → Inv J w (rnd J w k).1 (rnd J w k).2 k
 | 0, _ => Inv.zero hw
 | k + 1, h => by
  have h1 := rnd_inv hJ hw k fun p hp => h p (by omega)
  exact round_ok hJ h1 (h k (by omega))
theorem last_q (hJ : J.Ok) (hw : 1 ≤ w) : ∃ q, q ≤ J.n ∧ nxR J w q < 0 ∧ ∀ p, p < q → 0 ≤ nxR J w p := by
 have h : ∀ k, (∃ q, q < k ∧ nxR J w q < 0 ∧ ∀ p, p < q → 0 ≤ nxR J w p) ∨ ∀ p, p < k → 0 ≤ nxR J w p := by
  intro k
  induction k with
  | zero => exact .inr fun p h => by omega
  | succ k ih =>
   rcases ih with ⟨q, hq, h⟩ | h
   ·exact .inl ⟨q, by omega, h⟩
   ·by_cases hk : nxR J w k < 0
    ·exact .inl ⟨k, by omega, hk, h⟩
    ·refine .inr fun p hp => ?_
     by_cases e : p = k
     ·subst e; omega
     ·exact h p (by omega)
 rcases h (J.n + 1) with ⟨q, hq, h⟩ | h
 ·exact ⟨q, by omega, h⟩
 ·have h1 := (rnd_inv hJ hw _ h).fin
  have h2 := (cntF_le (finB J (rnd J w (J.n + 1)).2 (rnd J w (J.n + 1)).1) J.n).2
  push_cast at h1
  omega
end Sch
section
variable {N : Net} {n : Nat} {F : List Int}
set_option maxHeartbeats 3200000 in
theorem ListSchedule_d (h : NSz 1048576 N) (hF : StpSz 1048576 n F) (hok : orderOk N n F = true) (hS : Small N n F) {w : Int} (hw : 1 ≤ w ∧ w ≤ 8) :
  ∃ (T : Int) (s : Nat → Int), Sch.Good (jobOf N n F) w T s ∧ Does Try.prog 8 [netA N, .d (stp n F), .d (.int w)] [] (.tup [.d (ints (lf n s)), .d (.bool true)]) [] := by
 have hn := hF.n
 have hFl := hF.l
 have hn2 := hS.hn
 have hm2 := hS.hm
 have hJ := jobOk hok
 have h2 := (orderOk_iff.1 hok).2.1
 have h12 := (netOk_iff.1 (orderOk_iff.1 hok).1).2.1
 have hcl := costsTo_len (N := N) (F := F) n
 obtain ⟨qq, hqn, hq1, hq2⟩ := last_q hJ hw.1
 have hend := last_ok hJ hw.1 (rnd_inv hJ hw.1 qq hq2) hq1
 refine ⟨_, _, hend, ?_⟩
 (refine spec_of (by kernel_rfl) Try.func8 k_impl_ListSchedule (fnOk (nb rfl) ?_); unfold C_impl_ListSchedule)
 (simp only [Nat.reduceSub, List.length_cons, List.length_nil, Nat.reduceAdd, ch_init1, ch_init2, ch_init3, ch_init4, ch_init5, ch_init6, ch_init7, ch_init8]; try simp only [ch_rep]); (simp only [go_sem, seval, reduceCtorEq, List.replicate])
 (refine ti_call (iOrderOk_d h hF) ?_ ?_ ?_; (focus (simp only [go_sem, seval, reduceCtorEq]; done)); (first | rfl | (focus (simp only [go_sem]; done))))
 have c1 : ¬ w < 1 := by omega
 have c2 : ¬ w > 8 := by omega
 simp only [go_sem, seval, reduceCtorEq, hok, c1, c2]
 (refine ti_call (iOrderCosts_d h hF hok) ?_ ?_ ?_; (focus (simp only [go_sem, seval, reduceCtorEq]; done)); (first | rfl | (focus (simp only [go_sem]; done))))
 simp (disch := omega) only [go_sem, seval, reduceCtorEq]
 (repeat (refine And.intro (by omega) ?_))
 have hrep : List.replicate n (0 : Int) = lf n fun i => if i < 0 then -1 else 0 := by rw [lf_rep]; exact lf_congr fun i _ => (if_neg (by omega)).symm
 refine wpN_lp (n) (mkB 155 2216615441598464) (fun k => [(44, .d (.int k))]) (fun k => [(4, iv (lf n fun i => if i < k then -1 else 0))]) (h1 := by first | (simp only [go_sem, seval, reduceCtorEq, nz, na, n1, hrep]; first | done | rfl) | rfl) (h2 := by first | (simp only [go_sem, seval, reduceCtorEq, nz, na, n1, hrep]; first | done | rfl) | rfl) (hr := fun k hk => ?_)
 ·unfold L4_impl_ListSchedule
  have hl := lf_len n fun i => if i < k then -1 else 0
  by_cases hlt : k < n
  ·have d1 : (k : Int) < n := by omega
   have hu : (lf n fun i => if i < k then -1 else 0).take k ++ [-1] ++ (lf n fun i => if i < k then -1 else 0).drop (k + 1) = lf n fun i => if i < k + 1 then -1 else 0 := by
    rw [lf_mid _ _ hlt]
    refine lf_congr fun i hi => ?_
    by_cases e : i = k
    ·subst e; rw [up1_same, if_pos (by omega)]
    ·rw [up1_ne e]
     by_cases e2 : i < k
     ·rw [if_pos e2, if_pos (by omega)]
     ·rw [if_neg e2, if_neg (by omega)]
   simp (disch := omega) only [go_sem, seval, reduceCtorEq, d1, hl]
   (repeat (refine And.intro (by omega) ?_))
   (refine Next.drop (mkB 155 2216615441598464) (by omega) (h1 := ?_) (h2 := ?_) <;> first | (simp only [go_sem, seval, reduceCtorEq, nz, na, n1, hu, hl]; first | done | rfl) | rfl | skip)
  ·have d1 : ¬ (k : Int) < n := by omega
   have hr0 : (lf n fun i => if i < k then -1 else 0) = lf n (rnd (jobOf N n F) w 0).2 := lf_congr fun i hi => if_pos (by omega)
   have ht0 : (rnd (jobOf N n F) w 0).1 = 0 := rfl
   simp (disch := omega) only [go_sem, seval, reduceCtorEq, d1]
   rw [hr0]
   refine wpN_lp (qq) (mkB 155 45671926166590716193865151022379340764622602432) (fun q => [(13, .d (.int (rnd (jobOf N n F) w q).1))]) (fun q => [(4, iv (lf n (rnd (jobOf N n F) w q).2))]) (h1 := by first | (simp only [go_sem, seval, reduceCtorEq, nz, na, n1, ht0]; first | done | rfl) | rfl) (h2 := by first | (simp only [go_sem, seval, reduceCtorEq, nz, na, n1, ht0]; first | done | rfl) | rfl) (hr := fun q hq => ?_)
   unfold L3_impl_ListSchedule
   have hI := rnd_inv hJ hw.1 q fun p hp => hq2 p (by omega)
   have hn1 : (rnd (jobOf N n F) w (q + 1)).1 = nxR (jobOf N n F) w q := rfl
   have hn2' : (rnd (jobOf N n F) w (q + 1)).2 = goS (jobOf N n F) w (rnd (jobOf N n F) w q).1 (rnd (jobOf N n F) w q).2 := rfl
   have hn3 : nxR (jobOf N n F) w q = nxt (jobOf N n F) (rnd (jobOf N n F) w q).1 (goS (jobOf N n F) w (rnd (jobOf N n F) w q).1 (rnd (jobOf N n F) w q).2) n := rfl
   have hend' : q = qq → (rnd (jobOf N n F) w qq).2 = (rnd (jobOf N n F) w q).2 ∧ (rnd (jobOf N n F) w qq).1 = (rnd (jobOf N n F) w q).1 := fun e => by rw [e]; exact ⟨rfl, rfl⟩
   generalize (rnd (jobOf N n F) w q).1 = t at *
   generalize (rnd (jobOf N n F) w q).2 = s at *
   have htn := hS.len hI
   have ht0' := hI.t0
   have hsb : ∀ i, i < n → -1 ≤ s i ∧ s i ≤ 1000000000 := fun i hi => by have := hI.le i hi; omega
   have hls := lf_len n s
   have hz2 : cntF (runB (jobOf N n F) s t) 0 = 0 := rfl
   simp (disch := omega) only [go_sem, seval, reduceCtorEq]
   refine wpN_lp (n) (mkB 155 302231418874860274745344) (fun j => [(14, .d (.int (cntF (runB (jobOf N n F) s t) j))), (54, .d (.int j))]) (fun j => []) (h1 := by first | (simp only [go_sem, seval, reduceCtorEq, nz, na, n1, hz2]; first | done | rfl) | rfl) (h2 := by first | (simp only [go_sem, seval, reduceCtorEq, nz, na, n1, hz2]; first | done | rfl) | rfl) (hr := fun j hj => ?_)
   ·unfold L2_impl_ListSchedule
    by_cases hjn : j < n
    ·have d1 : (j : Int) < n := by omega
     have g1 := lf_get s hjn
     have g2 : (costsTo N F n)[j]? = some (costAt N F j) := lf_get _ hjn
     have b1 := hsb j hjn
     have b2 := hS.hc j hjn
     have b3 := cntF_le (runB (jobOf N n F) s t) j
     have ej : cntF (runB (jobOf N n F) s t) (j + 1) = cntF (runB (jobOf N n F) s t) j + (if runB (jobOf N n F) s t j = true then 1 else 0) := rfl
     have er : runB (jobOf N n F) s t j = true ↔ 0 ≤ s j ∧ t < s j + costAt N F j := decide_eq_true_iff
     by_cases x1 : s j ≥ 0
     ·by_cases x2 : s j + costAt N F j > t
      ·rw [if_pos (er.2 (by omega))] at ej
       simp (disch := omega) only [go_sem, seval, reduceCtorEq, d1, g1, g2, x1, x2, hls, hcl]
       (repeat (refine And.intro (by omega) ?_))
       (refine Next.drop (mkB 155 302231418874860274745344) (by omega) (h1 := ?_) (h2 := ?_) <;> first | (simp only [go_sem, seval, reduceCtorEq, nz, na, n1, ej]; first | done | rfl) | rfl | skip)
      ·rw [if_neg (by rw [er]; omega), Int.add_zero] at ej
       simp (disch := omega) only [go_sem, seval, reduceCtorEq, d1, g1, g2, x1, x2, hls, hcl]
       (repeat (refine And.intro (by omega) ?_))
       (refine Next.drop (mkB 155 302231418874860274745344) (by omega) (h1 := ?_) (h2 := ?_) <;> first | (simp only [go_sem, seval, reduceCtorEq, nz, na, n1, ej]; first | done | rfl) | rfl | skip)
     ·rw [if_neg (by rw [er]; omega), Int.add_zero] at ej
      simp (disch := omega) only [go_sem, seval, reduceCtorEq, d1, g1, g2, x1, hls, hcl]
      (repeat (refine And.intro (by omega) ?_))
      (refine Next.drop (mkB 155 302231418874860274745344) (by omega) (h1 := ?_) (h2 := ?_) <;> first | (simp only [go_sem, seval, reduceCtorEq, nz, na, n1, ej]; first | done | rfl) | rfl | skip)
    ·have d1 : ¬ (j : Int) < n := by omega
     obtain rfl : n = j := by omega
     simp (disch := omega) only [go_sem, seval, reduceCtorEq, d1]
     have hg0 : (go1 (jobOf N n F) w t (cntF (runB (jobOf N n F) s t) n) s 0) = (cntF (runB (jobOf N n F) s t) n, s) := rfl
     have hgo := go1_ok hJ hI
     have hgS : (go1 (jobOf N n F) w t (cntF (runB (jobOf N n F) s t) n) s n).2 = goS (jobOf N n F) w t s := rfl
     have hgk : ∀ i, go1 (jobOf N n F) w t (cntF (runB (jobOf N n F) s t) n) s (i + 1) = if (go1 (jobOf N n F) w t (cntF (runB (jobOf N n F) s t) n) s i).1 < w ∧ (go1 (jobOf N n F) w t (cntF (runB (jobOf N n F) s t) n) s i).2 i < 0 ∧ endB (jobOf N n F) (go1 (jobOf N n F) w t (cntF (runB (jobOf N n F) s t) n) s i).2 t (stA F i) = true ∧ endB (jobOf N n F) (go1 (jobOf N n F) w t (cntF (runB (jobOf N n F) s t) n) s i).2 t (stB F i) = true
      then ((go1 (jobOf N n F) w t (cntF (runB (jobOf N n F) s t) n) s i).1 + 1, up1 (go1 (jobOf N n F) w t (cntF (runB (jobOf N n F) s t) n) s i).2 i t) else go1 (jobOf N n F) w t (cntF (runB (jobOf N n F) s t) n) s i := fun i => rfl
     have hgo' : ∀ i, i ≤ n → Go1 (jobOf N n F) w t s i (go1 (jobOf N n F) w t (cntF (runB (jobOf N n F) s t) n) s i).1 (go1 (jobOf N n F) w t (cntF (runB (jobOf N n F) s t) n) s i).2 := hgo
     have hg0a : (go1 (jobOf N n F) w t (cntF (runB (jobOf N n F) s t) n) s 0).1 = cntF (runB (jobOf N n F) s t) n := rfl
     have hg0b : (go1 (jobOf N n F) w t (cntF (runB (jobOf N n F) s t) n) s 0).2 = s := rfl
     clear hgo hg0
     generalize go1 (jobOf N n F) w t (cntF (runB (jobOf N n F) s t) n) s = G at *
     refine wpN_lp (n) (mkB 155 83076749734139390417258682918305792) (fun i => [(14, .d (.int (G i).1)), (80, .d (.int i))]) (fun i => [(4, iv (lf n (G i).2))]) (h1 := by first | (simp only [go_sem, seval, reduceCtorEq, nz, na, n1, hg0a, hg0b]; first | done | rfl) | rfl) (h2 := by first | (simp only [go_sem, seval, reduceCtorEq, nz, na, n1, hg0a, hg0b]; first | done | rfl) | rfl) (hr := fun i hi => ?_)
     ·unfold L1_impl_ListSchedule
      by_cases hin : i < n
      ·have d1 : (i : Int) < n := by omega
       have hG := hgo' i (by omega)
       have hk := hgk i
       have hrb := (cntF_le (runB (jobOf N n F) (G i).2 t) n)
       have hrc : (G i).1 = cntF (runB (jobOf N n F) (G i).2 t) n := hG.cn
       have hsb' : ∀ x, x < n → -1 ≤ (G i).2 x ∧ (G i).2 x ≤ 10000000000 := fun x hx => by
        have := hsb x hx
        rcases hG.old x with e | ⟨_, _, e⟩ <;> omega
       generalize G i = S at *
       obtain ⟨r, s'⟩ := S
       simp only at hG hk hrb hrc hsb' ⊢
       have g := stp_cut hF hin
       have hst := ordStep hok hin
       have hlt := st_lt hok hin
       rw [hst.a, hst.b] at g
       have g1 := lf_get s' hin
       have hls' := lf_len n s'
       have ht1 : (lf n s').take n = lf n s' := List.take_of_length_le (by omega)
       have ht2 : (costsTo N F n).take n = costsTo N F n := List.take_of_length_le (by omega)
       by_cases x1 : ¬ r < w
       ·rw [if_neg fun e => x1 e.1] at hk
        simp (disch := omega) only [go_sem, seval, reduceCtorEq, d1, g, dv_two, g1, hls', x1]
        (repeat (refine And.intro (by omega) ?_))
        (refine Next.drop (mkB 155 83076749734139390417258682918305792) (by omega) (h1 := ?_) (h2 := ?_) <;> first | (simp only [go_sem, seval, reduceCtorEq, nz, na, n1, hk]; first | done | rfl) | rfl | skip)
       have x1 := Decidable.not_not.1 x1
       by_cases x2 : ¬ s' i < 0
       ·rw [if_neg fun e => x2 e.2.1] at hk
        simp (disch := omega) only [go_sem, seval, reduceCtorEq, d1, g, dv_two, g1, hls', x1, x2]
        (repeat (refine And.intro (by omega) ?_))
        (refine Next.drop (mkB 155 83076749734139390417258682918305792) (by omega) (h1 := ?_) (h2 := ?_) <;> first | (simp only [go_sem, seval, reduceCtorEq, nz, na, n1, hk]; first | done | rfl) | rfl | skip)
       have x2 := Decidable.not_not.1 x2
       simp (disch := omega) only [go_sem, seval, reduceCtorEq, d1, g, dv_two, g1, hls', x1, x2]
       (repeat (refine And.intro (by omega) ?_))
       (refine ti_cvl (by first | rfl | (simp only [go_sem, seval, reduceCtorEq]; done)) (by kernel_rfl) (ended_d hS (x := stA F i) (s := s') (t := t) (by omega) hsb') ?_ ?_ ?_; (focus (simp only [go_sem, seval, reduceCtorEq, hls', hcl, ht1, ht2]; done)); (first | rfl | (focus (simp only [go_sem]; done))))
       cases e1 : endB (jobOf N n F) s' t (stA F i)
       ·rw [if_neg fun e => by rw [e1] at e; exact absurd e.2.2.1 (by decide)] at hk
        simp (disch := omega) only [go_sem, seval, reduceCtorEq, e1]
        (refine Next.drop (mkB 155 83076749734139390417258682918305792) (by omega) (h1 := ?_) (h2 := ?_) <;> first | (simp only [go_sem, seval, reduceCtorEq, nz, na, n1, hk]; first | done | rfl) | rfl | skip)
       simp (disch := omega) only [go_sem, seval, reduceCtorEq, e1]
       (refine ti_cvl (by first | rfl | (simp only [go_sem, seval, reduceCtorEq]; done)) (by kernel_rfl) (ended_d hS (x := stB F i) (s := s') (t := t) (by omega) hsb') ?_ ?_ ?_; (focus (simp only [go_sem, seval, reduceCtorEq, hls', hcl, ht1, ht2]; done)); (first | rfl | (focus (simp only [go_sem]; done))))
       cases e2 : endB (jobOf N n F) s' t (stB F i)
       ·rw [if_neg fun e => by rw [e2] at e; exact absurd e.2.2.2 (by decide)] at hk
        simp (disch := omega) only [go_sem, seval, reduceCtorEq, e2]
        (refine Next.drop (mkB 155 83076749734139390417258682918305792) (by omega) (h1 := ?_) (h2 := ?_) <;> first | (simp only [go_sem, seval, reduceCtorEq, nz, na, n1, hk]; first | done | rfl) | rfl | skip)
       rw [if_pos ⟨x1, x2, e1, e2⟩] at hk
       have hu := lf_mid s' t hin
       simp (disch := omega) only [go_sem, seval, reduceCtorEq, e2, hls', hu]
       (repeat (refine And.intro (by omega) ?_))
       (refine Next.drop (mkB 155 83076749734139390417258682918305792) (by omega) (h1 := ?_) (h2 := ?_) <;> first | (simp only [go_sem, seval, reduceCtorEq, nz, na, n1, hk, hu]; first | done | rfl) | rfl | skip)
      ·have d1 : ¬ (i : Int) < n := by omega
       obtain rfl : n = i := by omega
       simp (disch := omega) only [go_sem, seval, reduceCtorEq, d1, hgS]
       have hSI := (goS_ok hJ hI).1
       have hsb' : ∀ x, x < n → -1 ≤ goS (jobOf N n F) w t s x ∧ goS (jobOf N n F) w t s x ≤ 1000000000 := fun x hx => by
        have := hSI.le x hx
        omega
       generalize hsd : goS (jobOf N n F) w t s = s' at *
       have hls' := lf_len n s'
       have ht1 : (dv (lf n s')).take n = dv (lf n s') := List.take_of_length_le (by rw [dv_len]; omega)
       have hz3 : nxt (jobOf N n F) t s' 0 = -1 := rfl
       refine wpN_lp (n) (mkB 155 2854495384747305764224114002447086742626893824) (fun i => [(18, .d (.int (nxt (jobOf N n F) t s' i))), (118, .d (.int i))]) (fun i => []) (h1 := by first | (simp only [go_sem, seval, reduceCtorEq, nz, na, n1, hz3]; first | done | rfl) | rfl) (h2 := by first | (simp only [go_sem, seval, reduceCtorEq, nz, na, n1, hz3]; first | done | rfl) | rfl) (hr := fun i hi => ?_)
       ·unfold L0_impl_ListSchedule
        by_cases hin : i < n
        ·have d1 : (i : Int) < n := by omega
         have g1 := lf_get s' hin
         have g2 : (costsTo N F n)[i]? = some (costAt N F i) := lf_get _ hin
         have b1 := hsb' i hin
         have b2 := hS.hc i hin
         have ei : nxt (jobOf N n F) t s' (i + 1) = if 0 ≤ s' i ∧ t < s' i + costAt N F i ∧ (nxt (jobOf N n F) t s' i < 0 ∨ s' i + costAt N F i < nxt (jobOf N n F) t s' i) then s' i + costAt N F i else nxt (jobOf N n F) t s' i := rfl
         simp (disch := omega) only [go_sem, seval, reduceCtorEq, d1, g1, g2, hls', hcl]
         (repeat (refine And.intro (by omega) ?_))
         by_cases x1 : ¬ s' i ≥ 0
         ·rw [if_neg fun e => x1 e.1] at ei
          simp (disch := omega) only [go_sem, seval, reduceCtorEq, g1, hls', x1]
          (repeat (refine And.intro (by omega) ?_))
          (refine Next.drop (mkB 155 2854495384747305764224114002447086742626893824) (by omega) (h1 := ?_) (h2 := ?_) <;> first | (simp only [go_sem, seval, reduceCtorEq, nz, na, n1, ei]; first | done | rfl) | rfl | skip)
         have x1 := Decidable.not_not.1 x1
         by_cases x2 : ¬ s' i + costAt N F i > t
         ·rw [if_neg fun e => x2 e.2.1] at ei
          simp (disch := omega) only [go_sem, seval, reduceCtorEq, g1, hls', x1, x2]
          (repeat (refine And.intro (by omega) ?_))
          (refine Next.drop (mkB 155 2854495384747305764224114002447086742626893824) (by omega) (h1 := ?_) (h2 := ?_) <;> first | (simp only [go_sem, seval, reduceCtorEq, nz, na, n1, ei]; first | done | rfl) | rfl | skip)
         have x2 := Decidable.not_not.1 x2
         by_cases x3 : nxt (jobOf N n F) t s' i < 0
         ·rw [if_pos ⟨x1, x2, .inl x3⟩] at ei
          simp (disch := omega) only [go_sem, seval, reduceCtorEq, g1, hls', x1, x2, x3]
          (repeat (refine And.intro (by omega) ?_))
          (refine Next.drop (mkB 155 2854495384747305764224114002447086742626893824) (by omega) (h1 := ?_) (h2 := ?_) <;> first | (simp only [go_sem, seval, reduceCtorEq, nz, na, n1, ei]; first | done | rfl) | rfl | skip)
         by_cases x4 : s' i + costAt N F i < nxt (jobOf N n F) t s' i
         ·rw [if_pos ⟨x1, x2, .inr x4⟩] at ei
          simp (disch := omega) only [go_sem, seval, reduceCtorEq, g1, hls', x1, x2, x3, x4]
          (repeat (refine And.intro (by omega) ?_))
          (refine Next.drop (mkB 155 2854495384747305764224114002447086742626893824) (by omega) (h1 := ?_) (h2 := ?_) <;> first | (simp only [go_sem, seval, reduceCtorEq, nz, na, n1, ei]; first | done | rfl) | rfl | skip)
         ·rw [if_neg fun e => e.2.2.elim x3 x4] at ei
          simp (disch := omega) only [go_sem, seval, reduceCtorEq, g1, hls', x1, x2, x3, x4]
          (repeat (refine And.intro (by omega) ?_))
          (refine Next.drop (mkB 155 2854495384747305764224114002447086742626893824) (by omega) (h1 := ?_) (h2 := ?_) <;> first | (simp only [go_sem, seval, reduceCtorEq, nz, na, n1, ei]; first | done | rfl) | rfl | skip)
        ·have d1 : ¬ (i : Int) < n := by omega
         obtain rfl : n = i := by omega
         simp (disch := omega) only [go_sem, seval, reduceCtorEq, d1]
         rw [← hn3]
         by_cases hx : nxR (jobOf N n F) w q < 0
         ·have hqq : q = qq := by
           false_or_by_contra
           have := hq2 q (by omega)
           omega
          have hfin : goS (jobOf N n F) w (rnd (jobOf N n F) w qq).1 (rnd (jobOf N n F) w qq).2 = s' := by rw [(hend' hqq).1, (hend' hqq).2]; exact hsd
          simp (disch := omega) only [go_sem, seval, reduceCtorEq, hx, hfin]
          (refine FnEnd.wk (Wk.freeze 4 (nb rfl) rfl (cellsD_iv) rfl rfl) ?_); (simp only [go_sem, seval, reduceCtorEq, List.take_length, hls', ht1])
          (refine FnEnd.mk (nb rfl) rfl (of_decide_eq_true rfl) ?_ ?_ <;> try simp only [go_sem, seval, reduceCtorEq])
         ·have hqq : q < qq := by
           false_or_by_contra
           have e : q = qq := by omega
           rw [e] at hx
           exact hx hq1
          simp (disch := omega) only [go_sem, seval, reduceCtorEq, hx]
          (refine Next.drop (mkB 155 45671926166590716193865151022379340764622602432) (by omega) (h1 := ?_) (h2 := ?_) <;> first | (simp only [go_sem, seval, reduceCtorEq, nz, na, n1, hn1, hn2']; first | done | rfl) | rfl | skip)
end
end Go.Proofs.Ytmkdphmjgfbjaaa
