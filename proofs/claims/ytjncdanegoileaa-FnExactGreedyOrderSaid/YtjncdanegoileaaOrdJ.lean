/-
  Contracts: greedy orders, by the program. No condition.
-/
import Derived.Test.YtjncdanegoileaaOrdI
namespace Go.Proofs.Ytjncdanegoileaa
open Go.RowKit Go.Lift Plain
set_option linter.unusedSimpArgs false
set_option linter.unusedVariables false
set_option maxRecDepth 100000

/-- The gain of two places. -/
def gainI (T os : List Int) (s : Osd) (p : Nat × Nat) : Int := gain T os s (s.nums.getD p.1 0, s.nums.getD p.2 0)
theorem greedySteps_d {T os : List Int} {r0 : Grd} {m q : Nat} (hD : T.length = 100) (h : GrdOk T r0.s m (q + 1)) (hm : m + q ≤ 1000) (ho : os.length ≤ 1048576) (hp : r0.ps = []) :
    Does Try.prog 74 [.ptr 0 0] [osR T os r0.s] (.own 1 0 q) [osR T os (grdTo T os r0 q).s, some ⟨2, true, iv (flatP (grdTo T os r0 q).ps)⟩] := by
  (refine spec_of (by kernel_rfl) Try.func74 k_impl_greedySteps (fnOk (Nat.le_of_ble_eq_true rfl) ?_); unfold C_impl_greedySteps)
  simp only [osR, lvS]
  (simp only [Nat.reduceSub, List.length_cons, List.length_nil, Nat.reduceAdd, ch_init1, ch_init2, ch_init3, ch_init4, ch_init5, ch_init6, ch_init7, ch_init8]; try simp only [ch_rep]); (simp only [go_sem, seval, reduceCtorEq, List.replicate])
  (refine wpN_lwk (Wk.nilE 3 2 _ _ rfl) ?_; simp only [go_sem, seval, reduceCtorEq])
  have hz1 : grdTo T os r0 0 = r0 := rfl
  have hz4 : flatP r0.ps = [] := by rw [hp]; rfl
  refine wpN_lp (q) [false, false, false, false, true, true, true, true, true, true, true, true, true, true, true, true, true, true, true, true, true, true, true, true, true, true, true, true, true, true, true, true, true, true, true, true, true, true, true, true, true, true, true, true, true, true, true, true, true, true, true, true, true, true, true, true, true, true, true, true, true, true, true, true, true, true, true, true, true, true, true, true, true, true, true, true, true, true, true, true, true, false] (fun k => [(3, .own 1 0 k)]) (fun k => [(0, osB T (.d (ints os)) (.d (lvS (grdTo T os r0 k).s)) (.d (.int (grdTo T os r0 k).s.all.length))), (1, iv (flatP (grdTo T os r0 k).ps))]) (fun _ => by (simp only [go_sem, seval, reduceCtorEq, dropF_ch, dropF_cons, dropF_nil, cut, cond_true, cond_false]); first | done | rfl) (fun _ => by (simp only [go_sem, seval, reduceCtorEq, cut]); first | done | rfl) (Nat.le_of_ble_eq_true rfl) (by first | (simp only [go_sem, seval, reduceCtorEq, dropF_ch, dropF_cons, dropF_nil, cut, cond_true, cond_false, Int.natCast_zero, Int.natCast_add, Int.natCast_one, hz1, hz4, iv_nil, lvS]; done) | rfl | (simp only [go_sem, seval, reduceCtorEq, dropF_ch, dropF_cons, dropF_nil, cut, cond_true, cond_false, Int.natCast_zero, Int.natCast_add, Int.natCast_one, hz1, hz4, iv_nil, lvS]; rfl)) (by first | (simp only [go_sem, seval, reduceCtorEq, dropF_ch, dropF_cons, dropF_nil, cut, cond_true, cond_false, Int.natCast_zero, Int.natCast_add, Int.natCast_one, hz1, hz4, iv_nil, lvS]; done) | rfl | (simp only [go_sem, seval, reduceCtorEq, dropF_ch, dropF_cons, dropF_nil, cut, cond_true, cond_false, Int.natCast_zero, Int.natCast_add, Int.natCast_one, hz1, hz4, iv_nil, lvS]; rfl)) fun k hk => ?_
  unfold L2_impl_greedySteps
  have hpsl := grdTo_ps T os r0 k
  rw [hp, List.length_nil, Nat.zero_add] at hpsl
  have hfl := flatP_len (grdTo T os r0 k).ps
  have hR := grdTo_ok (os := os) h k hk
  have hn := hR.n
  have hal := hR.ok.n
  by_cases hlt : k < q
  · rw [show q + 1 - k = (q - k - 1) + 2 by omega] at hR
    have hnx : grdTo T os r0 (k + 1) = ⟨(grdTo T os r0 k).s.step os (grdP T os (grdTo T os r0 k).s).1 (grdP T os (grdTo T os r0 k).s).2, (grdTo T os r0 k).ps ++ [grdP T os (grdTo T os r0 k).s]⟩ := rfl
    generalize hr : grdTo T os r0 k = r at *
    obtain ⟨M, hM⟩ : ∃ M, r.s.nums.length = M := ⟨_, rfl⟩
    have hMn := hR.n
    have d1 : (M : Int) > 1 := by omega
    have hnx1 := congrArg Grd.s hnx
    have hnx3 := congrArg Grd.ps hnx
    simp only at hnx1 hnx3
    obtain ⟨P, hP⟩ : ∃ P, prs (List.range M) = P := ⟨_, rfl⟩
    have hPlen : P.length = cRow M (M - 1) := by rw [← hP, prs_len, List.length_range]
    have hc0 : cRow M 0 = 0 := rfl
    have hk0 : keepB (gainI T os r.s) P 0 = (-1, -1, 0) := rfl
    have hPpos : 0 < P.length := by rw [← hP]; exact prs_pos (l := List.range M) (q := M - 2) (by rw [List.length_range]; omega)
    have hcMM : cRow M M = P.length := by
      obtain ⟨M', rfl⟩ : ∃ M', M = M' + 1 := ⟨M - 1, by omega⟩
      rw [hPlen, cRow]
      simp
    obtain ⟨b, hb⟩ : ∃ b, bestI (gainI T os r.s) P P.length = b := ⟨_, rfl⟩
    have hbm : b.1 < M ∧ b.2 < M := by
      have hx := bestI_mem (g := gainI T os r.s) hPpos P.length (Nat.le_refl _)
      rw [hb, ← hP] at hx
      have := prs_mem hx
      exact ⟨List.mem_range.1 this.1, List.mem_range.1 this.2⟩
    have hkb : keepB (gainI T os r.s) P P.length = ((b.1 : Int), (b.2 : Int), gainI T os r.s b) := by
      rw [keepB, if_neg (by omega), hb]
    have hb1 : b.1 < r.s.nums.length := by omega
    have hb2 : b.2 < r.s.nums.length := by omega
    have hgp : grdP T os r.s = (r.s.nums[b.1], r.s.nums[b.2]) := by
      have hx := best_nums (T := T) (os := os) (s := r.s) (by rw [hM, hP]; exact hPpos) P.length (by rw [hM, hP]; exact Nat.le_refl _)
      rw [hM, hP] at hx
      have hy : bestI (fun p => gain T os r.s (r.s.nums.getD p.1 0, r.s.nums.getD p.2 0)) P P.length = b := hb
      have hl : (prs r.s.nums).length = P.length := by rw [prs_len, hM, hPlen]
      rw [hy] at hx
      rw [grdP, hl, hx]
      simp [hb1, hb2]
    simp (disch := omega) only [go_sem, seval, reduceCtorEq, lvS, hM, d1]
    refine wpN_lp (M) [false, false, false, false, false, false, false, true, true, true, false, false, false, false, false, false, false, false, false, false, false, false, true, true, true, true, true, true, true, true, true, true, true, true, true, true, true, true, true, true, true, true, true, true, true, true, true, true, true, true, true, true, true, true, true, true, true, true, true, true, true, true, true, true, true, true, true, true, true, true, true, true, true, true, false, false, false, false, false, false, false, false] (fun i => [(21, .d (.int i)), (4, .d (.int (keepB (gainI T os r.s) P (cRow M i)).1)), (5, .d (.int (keepB (gainI T os r.s) P (cRow M i)).2.1)), (6, .d (.int (keepB (gainI T os r.s) P (cRow M i)).2.2))]) (fun i => []) (fun _ => by (simp only [go_sem, seval, reduceCtorEq, dropF_ch, dropF_cons, dropF_nil, cut, cond_true, cond_false]); first | done | rfl) (fun _ => by (simp only [go_sem, seval, reduceCtorEq, cut]); first | done | rfl) (Nat.le_of_ble_eq_true rfl) (by first | (simp only [go_sem, seval, reduceCtorEq, dropF_ch, dropF_cons, dropF_nil, cut, cond_true, cond_false, Int.natCast_zero, Int.natCast_add, Int.natCast_one, hc0, hk0, Int.natCast_zero]; done) | rfl | (simp only [go_sem, seval, reduceCtorEq, dropF_ch, dropF_cons, dropF_nil, cut, cond_true, cond_false, Int.natCast_zero, Int.natCast_add, Int.natCast_one, hc0, hk0, Int.natCast_zero]; rfl)) (by first | (simp only [go_sem, seval, reduceCtorEq, dropF_ch, dropF_cons, dropF_nil, cut, cond_true, cond_false, Int.natCast_zero, Int.natCast_add, Int.natCast_one, hc0, hk0, Int.natCast_zero]; done) | rfl | (simp only [go_sem, seval, reduceCtorEq, dropF_ch, dropF_cons, dropF_nil, cut, cond_true, cond_false, Int.natCast_zero, Int.natCast_add, Int.natCast_one, hc0, hk0, Int.natCast_zero]; rfl)) fun i hi => ?_
    unfold L1_impl_greedySteps
    by_cases hi : i < M
    · have d2 : (i : Int) < M := by omega
      simp (disch := omega) only [go_sem, seval, reduceCtorEq, d2]
      refine wpN_lp (M - 1 - i) [false, false, false, false, false, false, false, false, false, true, false, false, false, false, false, false, false, false, false, false, false, false, false, false, false, false, true, true, true, true, true, true, true, true, true, true, true, true, true, true, true, true, true, true, true, true, true, true, true, true, true, true, true, true, true, true, true, true, true, true, true, true, true, true, true, true, true, true, true, true, true, true, true, false, false, false, false, false, false, false, false, false] (fun j => [(8, .d (.int ((i : Int) + 1 + j))), (4, .d (.int (keepB (gainI T os r.s) P (cRow M i + j)).1)), (5, .d (.int (keepB (gainI T os r.s) P (cRow M i + j)).2.1)), (6, .d (.int (keepB (gainI T os r.s) P (cRow M i + j)).2.2))]) (fun j => []) (fun _ => by (simp only [go_sem, seval, reduceCtorEq, dropF_ch, dropF_cons, dropF_nil, cut, cond_true, cond_false]); first | done | rfl) (fun _ => by (simp only [go_sem, seval, reduceCtorEq, cut]); first | done | rfl) (Nat.le_of_ble_eq_true rfl) (by first | (simp only [go_sem, seval, reduceCtorEq, dropF_ch, dropF_cons, dropF_nil, cut, cond_true, cond_false, Int.natCast_zero, Int.natCast_add, Int.natCast_one, Int.natCast_zero, Int.add_zero, Nat.add_zero]; done) | rfl | (simp only [go_sem, seval, reduceCtorEq, dropF_ch, dropF_cons, dropF_nil, cut, cond_true, cond_false, Int.natCast_zero, Int.natCast_add, Int.natCast_one, Int.natCast_zero, Int.add_zero, Nat.add_zero]; rfl)) (by first | (simp only [go_sem, seval, reduceCtorEq, dropF_ch, dropF_cons, dropF_nil, cut, cond_true, cond_false, Int.natCast_zero, Int.natCast_add, Int.natCast_one, Int.natCast_zero, Int.add_zero, Nat.add_zero]; done) | rfl | (simp only [go_sem, seval, reduceCtorEq, dropF_ch, dropF_cons, dropF_nil, cut, cond_true, cond_false, Int.natCast_zero, Int.natCast_add, Int.natCast_one, Int.natCast_zero, Int.add_zero, Nat.add_zero]; rfl)) fun j hj => ?_
      unfold L0_impl_greedySteps
      by_cases hj : i + 1 + j < M
      · have d3 : (i : Int) + 1 + j < M := by omega
        have hg := row_get (M := M) (i := i) (q := j) hi hj
        rw [hP] at hg
        obtain ⟨hcl, hPc⟩ := List.getElem?_eq_some_iff.1 hg
        have hiM : i < r.s.nums.length := by omega
        have hjM : i + 1 + j < r.s.nums.length := by omega
        have ga := lvD_get1 (f := r.s.lab) hiM
        have gb := lvD_get1 (f := r.s.lab) hjM
        have l1 : r.s.nums.getD i 0 = r.s.nums[i] := by rw [List.getD_eq_getElem?_getD, List.getElem?_eq_getElem hiM]; rfl
        have l2 : r.s.nums.getD (i + 1 + j) 0 = r.s.nums[i + 1 + j] := by rw [List.getD_eq_getElem?_getD, List.getElem?_eq_getElem hjM]; rfl
        have hG : gainI T os r.s (i, i + 1 + j) = capP T (r.s.res os r.s.nums[i] r.s.nums[i + 1 + j]) - capP T (r.s.lab r.s.nums[i]) - capP T (r.s.lab r.s.nums[i + 1 + j]) := by
          simp only [gainI, gain, l1, l2]
        have n1 : (i : Int) + 1 + j = ((i + 1 + j : Nat) : Int) := by push_cast; rfl
        have nx : ((i + 1 + j : Nat) : Int) + 1 = (i : Int) + 1 + ((j + 1 : Nat) : Int) := by omega
        have hrl := nodup_len (hR.ok.res os r.s.nums[i] r.s.nums[i + 1 + j]).1 (hR.ok.res os r.s.nums[i] r.s.nums[i + 1 + j]).2
        have hla := hR.ok.len r.s.nums[i]
        have hlb := hR.ok.len r.s.nums[i + 1 + j]
        have ca := capP_bd (r.s.lab r.s.nums[i]) (hR.t r.s.nums[i])
        have cb := capP_bd (r.s.lab r.s.nums[i + 1 + j]) (hR.t r.s.nums[i + 1 + j])
        have cr := capP_bd (r.s.res os r.s.nums[i] r.s.nums[i + 1 + j]) hR.t.res
        have hcM : (i : Int) < M := by omega
        have hcJ : ((i + 1 + j : Nat) : Int) < M := by omega
        rw [n1] at d3
        simp (disch := omega) only [go_sem, seval, reduceCtorEq, n1, d3, hM]
        (refine gi_call (orderState_resultLabels_o (D := T) (os := os) (s := r.s) (i := i) (j := i + 1 + j) hD hR.ok (by omega) ho hiM hjM) ?_ ?_ ?_; (focus (simp only [go_sem, seval, reduceCtorEq, osP, lvS, hM]; done)); (first | rfl | (focus (simp only [go_sem]; done))))
        simp only [go_sem, seval, reduceCtorEq]
        (refine gi_call (orderState_size_d (T := T) (os := os) (s := r.s) (L := r.s.res os r.s.nums[i] r.s.nums[i + 1 + j]) hD (by omega) (hR.ok.res os r.s.nums[i] r.s.nums[i + 1 + j]).2 hR.t.res) ?_ ?_ ?_; (focus (simp only [go_sem, seval, reduceCtorEq, osP, lvS, hM]; done)); (first | rfl | (focus (simp only [go_sem]; done))))
        simp (disch := omega) only [go_sem, seval, reduceCtorEq, hcM, ga]
        (repeat (refine And.intro (by omega) ?_))
        (refine gi_call (orderState_size_d (T := T) (os := os) (s := r.s) (L := r.s.lab r.s.nums[i]) hD (by omega) (hR.ok.at r.s.nums[i]).2 (hR.t r.s.nums[i])) ?_ ?_ ?_; (focus (simp only [go_sem, seval, reduceCtorEq, osP, lvS, hM]; done)); (first | rfl | (focus (simp only [go_sem]; done))))
        simp (disch := omega) only [go_sem, seval, reduceCtorEq, hcJ, gb]
        (repeat (refine And.intro (by omega) ?_))
        (refine gi_call (orderState_size_d (T := T) (os := os) (s := r.s) (L := r.s.lab r.s.nums[i + 1 + j]) hD (by omega) (hR.ok.at r.s.nums[i + 1 + j]).2 (hR.t r.s.nums[i + 1 + j])) ?_ ?_ ?_; (focus (simp only [go_sem, seval, reduceCtorEq, osP, lvS, hM]; done)); (first | rfl | (focus (simp only [go_sem]; done))))
        simp (disch := omega) only [go_sem, seval, reduceCtorEq, ← hG]
        by_cases hC : cRow M i + j = 0
        · have d4 : (keepB (gainI T os r.s) P (cRow M i + j)).1 < 0 := keepB_neg.2 hC
          have hP0 : P[0] = (i, i + 1 + j) := by
            have hx := hg
            rw [hC, List.getElem?_eq_getElem (by omega)] at hx
            exact Option.some.inj hx
          have e : keepB (gainI T os r.s) P (cRow M i + (j + 1)) = ((i : Int), ((i + 1 + j : Nat) : Int), gainI T os r.s (i, i + 1 + j)) := by
            rw [← Nat.add_assoc, hC, Nat.zero_add, keepB_first (by omega), hP0]
          simp (disch := omega) only [go_sem, seval, reduceCtorEq, d4]
          (refine Next.drop [false, false, false, false, false, false, false, false, false, true, false, false, false, false, false, false, false, false, false, false, false, false, false, false, false, false, true, true, true, true, true, true, true, true, true, true, true, true, true, true, true, true, true, true, true, true, true, true, true, true, true, true, true, true, true, true, true, true, true, true, true, true, true, true, true, true, true, true, true, true, true, true, true, false, false, false, false, false, false, false, false, false] (by omega) (Nat.le_of_ble_eq_true rfl) ?_ ?_ <;> first | (simp only [go_sem, seval, reduceCtorEq, dropF_ch, dropF_cons, dropF_nil, cut, cond_true, cond_false, Int.natCast_zero, Int.natCast_add, Int.natCast_one, e, nx]; done) | rfl | (simp only [go_sem, seval, reduceCtorEq, dropF_ch, dropF_cons, dropF_nil, cut, cond_true, cond_false, Int.natCast_zero, Int.natCast_add, Int.natCast_one, e, nx]; rfl) | skip)
        · have d4 : ¬ (keepB (gainI T os r.s) P (cRow M i + j)).1 < 0 := fun hx => hC (keepB_neg.1 hx)
          have e : keepB (gainI T os r.s) P (cRow M i + (j + 1)) = if gainI T os r.s (i, i + 1 + j) < (keepB (gainI T os r.s) P (cRow M i + j)).2.2 then ((i : Int), ((i + 1 + j : Nat) : Int), gainI T os r.s (i, i + 1 + j)) else keepB (gainI T os r.s) P (cRow M i + j) := by
            rw [← Nat.add_assoc, keepB_next hcl (by omega), hPc]
          by_cases hcmp : gainI T os r.s (i, i + 1 + j) < (keepB (gainI T os r.s) P (cRow M i + j)).2.2
          · rw [if_pos hcmp] at e
            simp (disch := omega) only [go_sem, seval, reduceCtorEq, d4, hcmp]
            (refine Next.drop [false, false, false, false, false, false, false, false, false, true, false, false, false, false, false, false, false, false, false, false, false, false, false, false, false, false, true, true, true, true, true, true, true, true, true, true, true, true, true, true, true, true, true, true, true, true, true, true, true, true, true, true, true, true, true, true, true, true, true, true, true, true, true, true, true, true, true, true, true, true, true, true, true, false, false, false, false, false, false, false, false, false] (by omega) (Nat.le_of_ble_eq_true rfl) ?_ ?_ <;> first | (simp only [go_sem, seval, reduceCtorEq, dropF_ch, dropF_cons, dropF_nil, cut, cond_true, cond_false, Int.natCast_zero, Int.natCast_add, Int.natCast_one, e, nx]; done) | rfl | (simp only [go_sem, seval, reduceCtorEq, dropF_ch, dropF_cons, dropF_nil, cut, cond_true, cond_false, Int.natCast_zero, Int.natCast_add, Int.natCast_one, e, nx]; rfl) | skip)
          · rw [if_neg hcmp] at e
            simp (disch := omega) only [go_sem, seval, reduceCtorEq, d4, hcmp]
            (refine Next.drop [false, false, false, false, false, false, false, false, false, true, false, false, false, false, false, false, false, false, false, false, false, false, false, false, false, false, true, true, true, true, true, true, true, true, true, true, true, true, true, true, true, true, true, true, true, true, true, true, true, true, true, true, true, true, true, true, true, true, true, true, true, true, true, true, true, true, true, true, true, true, true, true, true, false, false, false, false, false, false, false, false, false] (by omega) (Nat.le_of_ble_eq_true rfl) ?_ ?_ <;> first | (simp only [go_sem, seval, reduceCtorEq, dropF_ch, dropF_cons, dropF_nil, cut, cond_true, cond_false, Int.natCast_zero, Int.natCast_add, Int.natCast_one, e, nx]; done) | rfl | (simp only [go_sem, seval, reduceCtorEq, dropF_ch, dropF_cons, dropF_nil, cut, cond_true, cond_false, Int.natCast_zero, Int.natCast_add, Int.natCast_one, e, nx]; rfl) | skip)
      · have d3 : ¬ (i : Int) + 1 + j < M := by omega
        obtain rfl : j = M - 1 - i := by omega
        have hcs : cRow M i + (M - 1 - i) = cRow M (i + 1) := rfl
        simp (disch := omega) only [go_sem, seval, reduceCtorEq, d3, hcs, hM]
        (refine Next.drop [false, false, false, false, false, false, false, true, true, true, false, false, false, false, false, false, false, false, false, false, false, false, true, true, true, true, true, true, true, true, true, true, true, true, true, true, true, true, true, true, true, true, true, true, true, true, true, true, true, true, true, true, true, true, true, true, true, true, true, true, true, true, true, true, true, true, true, true, true, true, true, true, true, true, false, false, false, false, false, false, false, false] (by omega) (Nat.le_of_ble_eq_true rfl) ?_ ?_ <;> first | (simp only [go_sem, seval, reduceCtorEq, dropF_ch, dropF_cons, dropF_nil, cut, cond_true, cond_false, Int.natCast_zero, Int.natCast_add, Int.natCast_one]; done) | rfl | (simp only [go_sem, seval, reduceCtorEq, dropF_ch, dropF_cons, dropF_nil, cut, cond_true, cond_false, Int.natCast_zero, Int.natCast_add, Int.natCast_one]; rfl) | skip)
    · have d2 : ¬ (i : Int) < M := by omega
      obtain rfl : i = M := by omega
      have hct := orderState_contract_d (D := T) (os := os) (s := r.s) hD hR.ok (by omega) ho hb1 hb2
      rw [hgp] at hnx1 hnx3
      simp only at hnx1 hnx3
      rw [← hnx1] at hct
      have hrw := iv_flat r.ps r.s.nums[b.1] r.s.nums[b.2]
      simp (disch := omega) only [go_sem, seval, reduceCtorEq, d2, hcMM, hkb]
      (refine ti_callcg [0] [] false (of_decide_eq_true rfl) ?_ _ ?_ (hct) ?_ ?_; (focus (simp only [go_sem, seval, reduceCtorEq, osR, lvS, hM]; done)); (focus (simp only [go_sem, seval, reduceCtorEq, osR, lvS, hM]; done)); (focus (first | rfl | (simp only [go_sem, seval, reduceCtorEq, osR, lvS, hM]; done))))
      simp (disch := omega) only [go_sem, seval, reduceCtorEq, osR, lvS]
      (repeat (refine And.intro (by omega) ?_))
      simp only [hrw]
      (refine Next.drop [false, false, false, false, true, true, true, true, true, true, true, true, true, true, true, true, true, true, true, true, true, true, true, true, true, true, true, true, true, true, true, true, true, true, true, true, true, true, true, true, true, true, true, true, true, true, true, true, true, true, true, true, true, true, true, true, true, true, true, true, true, true, true, true, true, true, true, true, true, true, true, true, true, true, true, true, true, true, true, true, true, false] (by omega) (Nat.le_of_ble_eq_true rfl) ?_ ?_ <;> first | (simp only [go_sem, seval, reduceCtorEq, dropF_ch, dropF_cons, dropF_nil, cut, cond_true, cond_false, Int.natCast_zero, Int.natCast_add, Int.natCast_one, hnx3, lvS]; done) | rfl | (simp only [go_sem, seval, reduceCtorEq, dropF_ch, dropF_cons, dropF_nil, cut, cond_true, cond_false, Int.natCast_zero, Int.natCast_add, Int.natCast_one, hnx3, lvS]; rfl) | skip)
  · have d1 : ¬ ((grdTo T os r0 k).s.nums.length : Int) > 1 := by omega
    obtain rfl : k = q := by omega
    simp (disch := omega) only [go_sem, seval, reduceCtorEq, d1, lvS]
    (refine FnEnd.mk (Nat.le_of_ble_eq_true rfl) rfl (of_decide_eq_true rfl) ?_ ?_ <;> try simp only [go_sem, seval, reduceCtorEq])
theorem greedySteps_0 {T os : List Int} {r0 : Grd} (hD : T.length = 100) (h : r0.s.nums.length = 0) :
    Does Try.prog 74 [.ptr 0 0] [osR T os r0.s] (.own 1 0 0) [osR T os r0.s, some ⟨2, true, []⟩] := by
  (refine spec_of (by kernel_rfl) Try.func74 k_impl_greedySteps (fnOk (Nat.le_of_ble_eq_true rfl) ?_); unfold C_impl_greedySteps)
  simp only [osR, lvS, h]
  (simp only [Nat.reduceSub, List.length_cons, List.length_nil, Nat.reduceAdd, ch_init1, ch_init2, ch_init3, ch_init4, ch_init5, ch_init6, ch_init7, ch_init8]; try simp only [ch_rep]); (simp only [go_sem, seval, reduceCtorEq, List.replicate])
  (refine wpN_lwk (Wk.nilE 3 2 _ _ rfl) ?_; simp only [go_sem, seval, reduceCtorEq])
  refine wpN_lp (0) [false, false, false, false, true, true, true, true, true, true, true, true, true, true, true, true, true, true, true, true, true, true, true, true, true, true, true, true, true, true, true, true, true, true, true, true, true, true, true, true, true, true, true, true, true, true, true, true, true, true, true, true, true, true, true, true, true, true, true, true, true, true, true, true, true, true, true, true, true, true, true, true, true, true, true, true, true, true, true, true, true, false] (fun k => [(3, .own 1 0 0)]) (fun k => [(0, osB T (.d (ints os)) (.d (.sl 0 (lvD r0.s.lab r0.s.nums))) (.d (.int r0.s.all.length))), (1, [])]) (fun _ => by (simp only [go_sem, seval, reduceCtorEq, dropF_ch, dropF_cons, dropF_nil, cut, cond_true, cond_false]); first | done | rfl) (fun _ => by (simp only [go_sem, seval, reduceCtorEq, cut]); first | done | rfl) (Nat.le_of_ble_eq_true rfl) (by first | (simp only [go_sem, seval, reduceCtorEq, dropF_ch, dropF_cons, dropF_nil, cut, cond_true, cond_false, Int.natCast_zero, Int.natCast_add, Int.natCast_one]; done) | rfl | (simp only [go_sem, seval, reduceCtorEq, dropF_ch, dropF_cons, dropF_nil, cut, cond_true, cond_false, Int.natCast_zero, Int.natCast_add, Int.natCast_one]; rfl)) (by first | (simp only [go_sem, seval, reduceCtorEq, dropF_ch, dropF_cons, dropF_nil, cut, cond_true, cond_false, Int.natCast_zero, Int.natCast_add, Int.natCast_one]; done) | rfl | (simp only [go_sem, seval, reduceCtorEq, dropF_ch, dropF_cons, dropF_nil, cut, cond_true, cond_false, Int.natCast_zero, Int.natCast_add, Int.natCast_one]; rfl)) fun k hk => ?_
  unfold L2_impl_greedySteps
  have d1 : ¬ (0 : Int) > 1 := by omega
  simp (disch := omega) only [go_sem, seval, reduceCtorEq, d1, Int.natCast_zero]
  (refine FnEnd.mk (Nat.le_of_ble_eq_true rfl) rfl (of_decide_eq_true rfl) ?_ ?_ <;> try simp only [go_sem, seval, reduceCtorEq])
noncomputable def grdN (N : Net) : Nat := if netOk N = true then N.ts.length - 1 else 0
noncomputable def grdF (N : Net) : List Int := if netOk N = true then flatP (grdTo (dimsR N.ts).1 N.os ⟨osInit N.ts, []⟩ (N.ts.length - 1)).ps else []
theorem sGreedyOrder_d {N : Net} (h : NSz 1048576 N) : Does Try.prog 25 [netA N] [] (.own 0 0 (grdN N)) [some ⟨2, true, iv (grdF N)⟩] := by
  cases hok : netOk N
  · have e1 : grdN N = 0 := by simp [grdN, hok]
    have e2 : grdF N = [] := by simp [grdF, hok]
    rw [e1, e2]
    (refine spec_of (by kernel_rfl) Try.func25 k_spec_GreedyOrder (fnOk (Nat.le_of_ble_eq_true rfl) ?_); unfold C_spec_GreedyOrder)
    (simp only [Nat.reduceSub, List.length_cons, List.length_nil, Nat.reduceAdd, ch_init1, ch_init2, ch_init3, ch_init4, ch_init5, ch_init6, ch_init7, ch_init8]; try simp only [ch_rep]); (simp only [go_sem, seval, reduceCtorEq, List.replicate])
    (refine ti_call (sNetworkOk_d h) ?_ ?_ ?_; (focus (simp only [go_sem, seval, reduceCtorEq]; done)); (first | rfl | (focus (simp only [go_sem]; done))))
    simp only [go_sem, seval, reduceCtorEq, hok]
    refine FnEnd.wk (Wk.nilE 2 2 _ _ rfl) ?_
    (refine FnEnd.mk (Nat.le_of_ble_eq_true rfl) rfl (of_decide_eq_true rfl) ?_ ?_ <;> try simp only [go_sem, seval, reduceCtorEq])
  · have e1 : grdN N = N.ts.length - 1 := by simp [grdN, hok]
    have e2 : grdF N = flatP (grdTo (dimsR N.ts).1 N.os ⟨osInit N.ts, []⟩ (N.ts.length - 1)).ps := by simp [grdF, hok]
    rw [e1, e2]
    exact sGreedyOrder_o h hok
theorem iGreedyOrder_d {N : Net} (h : NSz 1048576 N) : Does Try.prog 26 [netA N] [] (.own 0 0 (grdN N)) [some ⟨2, true, iv (grdF N)⟩] := by
  have hD := dimsR_len N.ts
  have hol := h.o.len
  (refine spec_of (by kernel_rfl) Try.func26 k_impl_GreedyOrder (fnOk (Nat.le_of_ble_eq_true rfl) ?_); unfold C_impl_GreedyOrder)
  (simp only [Nat.reduceSub, List.length_cons, List.length_nil, Nat.reduceAdd, ch_init1, ch_init2, ch_init3, ch_init4, ch_init5, ch_init6, ch_init7, ch_init8]; try simp only [ch_rep]); (simp only [go_sem, seval, reduceCtorEq, List.replicate])
  (refine ti_call (iNetworkOk_d h) ?_ ?_ ?_; (focus (simp only [go_sem, seval, reduceCtorEq]; done)); (first | rfl | (focus (simp only [go_sem]; done))))
  cases hok : netOk N
  · have e1 : grdN N = 0 := by simp [grdN, hok]
    have e2 : grdF N = [] := by simp [grdF, hok]
    simp only [go_sem, seval, reduceCtorEq, hok, e1, e2, iv_nil]
    refine FnEnd.wk (Wk.nilE 2 2 _ _ rfl) ?_
    (refine FnEnd.mk (Nat.le_of_ble_eq_true rfl) rfl (of_decide_eq_true rfl) ?_ ?_ <;> try simp only [go_sem, seval, reduceCtorEq])
  have h12 := (netOk_iff.1 hok).2.1
  have e1 : grdN N = N.ts.length - 1 := by simp [grdN, hok]
  have e2 : grdF N = flatP (grdTo (dimsR N.ts).1 N.os ⟨osInit N.ts, []⟩ (N.ts.length - 1)).ps := by simp [grdF, hok]
  simp only [go_sem, seval, reduceCtorEq, hok]
  (refine ti_call (startState_d h hok) ?_ ?_ ?_; (focus (simp only [go_sem, seval, reduceCtorEq, osR, lvS]; done)); (first | rfl | (focus (simp only [go_sem]; done))))
  simp only [go_sem, seval, reduceCtorEq, osR, lvS]
  by_cases h0 : N.ts.length = 0
  · have hz := greedySteps_0 (T := (dimsR N.ts).1) (os := N.os) (r0 := ⟨osInit N.ts, []⟩) hD (by rw [osInit_nums, List.length_range, h0])
    have e3 : grdN N = 0 := by omega
    have e4 : grdF N = [] := by rw [e2, h0]; rfl
    (refine ti_callcg [1] [] false (of_decide_eq_true rfl) ?_ _ ?_ (hz) ?_ ?_; (focus (simp only [go_sem, seval, reduceCtorEq, osR, lvS]; done)); (focus (simp only [go_sem, seval, reduceCtorEq, osR, lvS]; done)); (focus (first | rfl | (simp only [go_sem, seval, reduceCtorEq, osR, lvS]; done))))
    simp only [go_sem, seval, reduceCtorEq, osR, e3, e4, iv_nil, List.getElem?_nil, or_self]
    (refine FnEnd.mk (Nat.le_of_ble_eq_true rfl) rfl (of_decide_eq_true rfl) ?_ ?_ <;> try simp only [go_sem, seval, reduceCtorEq])
  · have hz := greedySteps_d (T := (dimsR N.ts).1) (os := N.os) (r0 := ⟨osInit N.ts, []⟩) hD (grd_init hok (by omega)) (by omega) (by omega) rfl
    (refine ti_callcg [1] [] false (of_decide_eq_true rfl) ?_ _ ?_ (hz) ?_ ?_; (focus (simp only [go_sem, seval, reduceCtorEq, osR, lvS]; done)); (focus (simp only [go_sem, seval, reduceCtorEq, osR, lvS]; done)); (focus (first | rfl | (simp only [go_sem, seval, reduceCtorEq, osR, lvS]; done))))
    simp only [go_sem, seval, reduceCtorEq, osR, e1, e2, List.getElem?_nil, or_self]
    (refine FnEnd.mk (Nat.le_of_ble_eq_true rfl) rfl (of_decide_eq_true rfl) ?_ ?_ <;> try simp only [go_sem, seval, reduceCtorEq])
theorem grdF_sz {N : Net} : StpSz 1048576 (grdN N) (grdF N) := by
  cases hok : netOk N
  · simp only [grdN, grdF, hok]
    exact ⟨by simp, by simp, by simp⟩
  · have h12 := (netOk_iff.1 hok).2.1
    have e1 : grdN N = N.ts.length - 1 := by simp [grdN, hok]
    have e2 : grdF N = flatP (grdTo (dimsR N.ts).1 N.os ⟨osInit N.ts, []⟩ (N.ts.length - 1)).ps := by simp [grdF, hok]
    have h3 := grdTo_ps (dimsR N.ts).1 N.os ⟨osInit N.ts, []⟩ (N.ts.length - 1)
    refine ⟨by rw [e1, e2, flatP_len, h3]; simp, by omega, fun y hy => ?_⟩
    rw [e2] at hy
    simp only [flatP, List.mem_flatMap, List.mem_cons, List.not_mem_nil, or_false] at hy
    obtain ⟨p, hp, hy⟩ := hy
    have hb : ∀ k, k ≤ N.ts.length - 1 → ∀ p ∈ (grdTo (dimsR N.ts).1 N.os ⟨osInit N.ts, []⟩ k).ps, p.1 ≤ 1000 ∧ p.2 ≤ 1000 := by
      intro k
      induction k with
      | zero => intro _ p hp; cases hp
      | succ k ih =>
        intro hk p hp
        rw [grdTo] at hp
        simp only [List.mem_append, List.mem_singleton] at hp
        rcases hp with hp | rfl
        · exact ih (by omega) p hp
        · have hR := grdTo_ok (T := (dimsR N.ts).1) (os := N.os) (r := ⟨osInit N.ts, []⟩) (m := N.ts.length) (q := N.ts.length - 1) (grd_init hok (by omega)) k (by omega)
          rw [show N.ts.length - 1 + 1 - k = (N.ts.length - k - 2) + 2 by omega] at hR
          have hm1 := prs_mem (grdP_mem (T := (dimsR N.ts).1) (os := N.os) (q := N.ts.length - k - 2) hR.n)
          have hn1 := nums_mem.1 hm1.1
          have hn2 := nums_mem.1 hm1.2
          have hal := hR.ok.n
          omega
    have := hb _ (Nat.le_refl _) p hp
    rcases hy with rfl | rfl <;> exact ⟨by omega, by omega⟩
end Go.Proofs.Ytjncdanegoileaa
