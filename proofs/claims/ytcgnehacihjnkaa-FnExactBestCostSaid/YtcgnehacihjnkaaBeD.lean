/-
  Contracts: the best cost: the program's table. No condition.
-/
import Derived.Test.YtcgnehacihjnkaaBeC
namespace Go.Proofs.Ytcgnehacihjnkaa
open Go.RowKit Go.Lift Plain
set_option linter.unusedSimpArgs false
set_option linter.unusedVariables false
set_option maxRecDepth 100000

set_option maxHeartbeats 1600000 in
theorem bestTable_d {N : Net} (h : NSz 1048576 N) (hok : netOk N = true) (h7 : N.ts.length ≤ 7) :
    Does Try.prog 75 [netA N] [] (.tup [.own 0 0 (2 ^ N.ts.length), .own 1 0 (2 ^ N.ts.length)])
      [some ⟨1, true, iv (tab (2 ^ N.ts.length) fun j => (bcT (wrkN N) (2 ^ N.ts.length) j).1)⟩, some ⟨1, true, iv (tab (2 ^ N.ts.length) fun j => ((bcT (wrkN N) (2 ^ N.ts.length) j).2 : Int))⟩] := by
  have hnl := h.l
  have hax := netOk_ax hok
  have hRl := dimsR_len N.ts
  have htR : List.take 100 (dimsR N.ts).1 = (dimsR N.ts).1 := List.take_of_length_le (by omega)
  have hdr : List.drop 100 (repI 100 0) = [] := List.drop_of_length_le (by rw [repI_len]; exact Nat.le_refl _)
  have hW := fun a b => (wrk_bd hok a b)
  have hWn : ∀ a b, 0 ≤ wrkN N a b := fun a b => by have := hW a b; omega
  have hbc := bcT_bd hWn
  (refine spec_of (by kernel_rfl) Try.func75 k_impl_bestTable (fnOk (Nat.le_of_ble_eq_true rfl) ?_); unfold C_impl_bestTable)
  (simp only [Nat.reduceSub, List.length_cons, List.length_nil, Nat.reduceAdd, ch_init1, ch_init2, ch_init3, ch_init4, ch_init5, ch_init6, ch_init7, ch_init8]; try simp only [ch_rep]); (simp only [go_sem, seval, reduceCtorEq, List.replicate])
  (refine ti_call (dimsOf_d (ts := N.ts) h.l h.t hax) ?_ ?_ ?_; (focus (simp only [go_sem, seval, reduceCtorEq]; done)); (first | rfl | (focus (simp only [go_sem]; done))))
  simp (disch := omega) only [go_sem, seval, reduceCtorEq, hdr, hRl, htR]
  have hmin : min N.ts.length 64 = N.ts.length := by omega
  have hsh := shl_eq (k := N.ts.length) (by omega)
  simp (disch := omega) only [go_sem, seval, reduceCtorEq, hmin, hsh]
  have hp7 : 2 ^ N.ts.length ≤ 2 ^ 7 := Nat.pow_le_pow_right (by omega) (by omega)
  have hp1 := Nat.two_pow_pos N.ts.length
  have hpk : ∀ i, i < N.ts.length → 2 ^ i < 2 ^ N.ts.length := fun i hi => Nat.pow_lt_pow_right (by omega) hi
  generalize hn : 2 ^ N.ts.length = n at *
  refine And.intro ⟨by omega, by omega⟩ ?_
  have hz0 : mixS (tabS n (setC N)) 0 = List.replicate n .nil := by rw [mixS_zero, tabS_len]
  simp only [zeros_nil]
  refine wpN_lp (n) [false, false, false, false, false, false, false, false, true, false, false, false, false, false, false, false, false, false, false, false, false, false, false, false, false, false, false, false, false, false, false, false, false, false, true, true, true, true, true, true, true, true, true, false, false, false, false, false, false, false, false, false, false, false, false, false, false, false, false, false, false, false, false, false, false, false, false, false, false, false, false, false, false, false, false, false, false, false, false, false, false, false, false, false, false, false, false, false, false, false, false, false, false, false, false, false, false, false, false, false, false, false, false, false, false, false, false, false, false, false, false, false, false, false, false, false, false, false, false, false, false, false, false, false, false, false, false, false, false, false, false, false, false, false, false, false, false, false, false, false, false] (fun k => [(33, .d (.int k))]) (fun k => [(2, mixS (tabS n (setC N)) k)]) (fun _ => by (simp only [go_sem, seval, reduceCtorEq, dropF_ch, dropF_cons, dropF_nil, cut, cond_true, cond_false]); first | done | rfl) (fun _ => by (simp only [go_sem, seval, reduceCtorEq, cut]); first | done | rfl) (Nat.le_of_ble_eq_true rfl) (by first | (simp only [go_sem, seval, reduceCtorEq, dropF_ch, dropF_cons, dropF_nil, cut, cond_true, cond_false, Int.natCast_zero, Int.natCast_add, Int.natCast_one, hz0]; done) | rfl | (simp only [go_sem, seval, reduceCtorEq, dropF_ch, dropF_cons, dropF_nil, cut, cond_true, cond_false, Int.natCast_zero, Int.natCast_add, Int.natCast_one, hz0]; rfl)) (by first | (simp only [go_sem, seval, reduceCtorEq, dropF_ch, dropF_cons, dropF_nil, cut, cond_true, cond_false, Int.natCast_zero, Int.natCast_add, Int.natCast_one, hz0]; done) | rfl | (simp only [go_sem, seval, reduceCtorEq, dropF_ch, dropF_cons, dropF_nil, cut, cond_true, cond_false, Int.natCast_zero, Int.natCast_add, Int.natCast_one, hz0]; rfl)) fun k hk => ?_
  unfold L3_impl_bestTable
  have htl : (tabS n (setC N)).length = n := tabS_len
  have hml := mixS_len (L := tabS n (setC N)) (k := k) (by omega)
  by_cases hlt : k < n
  · have d1 : (k : Int) < n := by omega
    have hm := mixS_next (L := tabS n (setC N)) (k := k) (by omega)
    rw [tabS_at] at hm
    have hse : pickTo (setP N (k : Int)) 100 = setC N k := rfl
    simp (disch := omega) only [go_sem, seval, reduceCtorEq, d1]
    (refine ti_call (rawSetLabels_f (s := (k : Int)) h hok ⟨by omega, by omega⟩) ?_ ?_ ?_; (focus (simp only [go_sem, seval, reduceCtorEq]; done)); (first | rfl | (focus (simp only [go_sem]; done))))
    simp (disch := omega) only [go_sem, seval, reduceCtorEq, hse, hml, htl]
    (repeat (refine And.intro (by omega) ?_))
    refine And.intro mixS_tr ?_
    (refine Next.drop [false, false, false, false, false, false, false, false, true, false, false, false, false, false, false, false, false, false, false, false, false, false, false, false, false, false, false, false, false, false, false, false, false, false, true, true, true, true, true, true, true, true, true, false, false, false, false, false, false, false, false, false, false, false, false, false, false, false, false, false, false, false, false, false, false, false, false, false, false, false, false, false, false, false, false, false, false, false, false, false, false, false, false, false, false, false, false, false, false, false, false, false, false, false, false, false, false, false, false, false, false, false, false, false, false, false, false, false, false, false, false, false, false, false, false, false, false, false, false, false, false, false, false, false, false, false, false, false, false, false, false, false, false, false, false, false, false, false, false, false, false] (by omega) (Nat.le_of_ble_eq_true rfl) ?_ ?_ <;> first | (simp only [go_sem, seval, reduceCtorEq, dropF_ch, dropF_cons, dropF_nil, cut, cond_true, cond_false, Int.natCast_zero, Int.natCast_add, Int.natCast_one, hm]; done) | rfl | (simp only [go_sem, seval, reduceCtorEq, dropF_ch, dropF_cons, dropF_nil, cut, cond_true, cond_false, Int.natCast_zero, Int.natCast_add, Int.natCast_one, hm]; rfl) | skip)
  have d1 : ¬ (k : Int) < n := by omega
  obtain rfl : k = n := by omega
  have hm := mixS_all (L := tabS k (setC N)) (k := k) (by omega)
  have hov : lsA (tabS k (ovr (setC N) N.ts 0)) = lsA (tabS k (setC N)) := rfl
  simp (disch := omega) only [go_sem, seval, reduceCtorEq, d1, hm]
  refine wpN_lp (N.ts.length) [false, false, false, false, false, false, false, false, false, true, true, false, false, false, false, false, false, false, false, false, false, false, false, false, false, false, false, false, false, false, false, false, false, false, false, false, false, false, false, false, false, false, false, false, false, false, false, true, true, true, true, true, true, true, true, true, true, true, false, false, false, false, false, false, false, false, false, false, false, false, false, false, false, false, false, false, false, false, false, false, false, false, false, false, false, false, false, false, false, false, false, false, false, false, false, false, false, false, false, false, false, false, false, false, false, false, false, false, false, false, false, false, false, false, false, false, false, false, false, false, false, false, false, false, false, false, false, false, false, false, false, false, false, false, false, false, false, false, false, false, false] (fun q => [(46, .d (.int q))]) (fun q => [(2, lsA (tabS k (ovr (setC N) N.ts q)))]) (fun _ => by (simp only [go_sem, seval, reduceCtorEq, dropF_ch, dropF_cons, dropF_nil, cut, cond_true, cond_false]); first | done | rfl) (fun _ => by (simp only [go_sem, seval, reduceCtorEq, cut]); first | done | rfl) (Nat.le_of_ble_eq_true rfl) (by first | (simp only [go_sem, seval, reduceCtorEq, dropF_ch, dropF_cons, dropF_nil, cut, cond_true, cond_false, Int.natCast_zero, Int.natCast_add, Int.natCast_one, hov]; done) | rfl | (simp only [go_sem, seval, reduceCtorEq, dropF_ch, dropF_cons, dropF_nil, cut, cond_true, cond_false, Int.natCast_zero, Int.natCast_add, Int.natCast_one, hov]; rfl)) (by first | (simp only [go_sem, seval, reduceCtorEq, dropF_ch, dropF_cons, dropF_nil, cut, cond_true, cond_false, Int.natCast_zero, Int.natCast_add, Int.natCast_one, hov]; done) | rfl | (simp only [go_sem, seval, reduceCtorEq, dropF_ch, dropF_cons, dropF_nil, cut, cond_true, cond_false, Int.natCast_zero, Int.natCast_add, Int.natCast_one, hov]; rfl)) fun q hq => ?_
  unfold L2_impl_bestTable
  have htq : (tabS k (ovr (setC N) N.ts q)).length = k := tabS_len
  by_cases hltq : q < N.ts.length
  · have d2 : (q : Int) < N.ts.length := by omega
    have g3 := tcs_cut (List.getElem?_eq_getElem hltq)
    have hpq := hpk q hltq
    have hmq : min q 64 = q := by omega
    have hgv : ovr (setC N) N.ts (q + 1) (2 ^ q) = N.ts[q].labels := ovr_hit hltq _ (by omega)
    have hput := tabS_put (f := ovr (setC N) N.ts q) (g := ovr (setC N) N.ts (q + 1)) hpq fun i hi => by
      by_cases e : i = 2 ^ q
      · rw [if_pos e, e]
      · rw [if_neg e, ovr, if_neg e]
    rw [hgv] at hput
    obtain ⟨p, hp⟩ : ∃ p, p = 2 ^ q := ⟨_, rfl⟩
    rw [← hp] at hput hpq
    have hsq : IntKind.i64.wrap (1 * 2 ^ q) = (p : Int) := by rw [shl_eq (k := q) (by omega), hp]
    have dp : (p : Int) < k := by omega
    simp (disch := omega) only [go_sem, seval, reduceCtorEq, d2, g3, hmq, hsq, dp, htq]
    (repeat (refine And.intro (by omega) ?_))
    refine And.intro (all_cut (lsA_tr _)) ?_
    (refine Next.drop [false, false, false, false, false, false, false, false, false, true, true, false, false, false, false, false, false, false, false, false, false, false, false, false, false, false, false, false, false, false, false, false, false, false, false, false, false, false, false, false, false, false, false, false, false, false, false, true, true, true, true, true, true, true, true, true, true, true, false, false, false, false, false, false, false, false, false, false, false, false, false, false, false, false, false, false, false, false, false, false, false, false, false, false, false, false, false, false, false, false, false, false, false, false, false, false, false, false, false, false, false, false, false, false, false, false, false, false, false, false, false, false, false, false, false, false, false, false, false, false, false, false, false, false, false, false, false, false, false, false, false, false, false, false, false, false, false, false, false, false, false] (by omega) (Nat.le_of_ble_eq_true rfl) ?_ ?_ <;> first | (simp only [go_sem, seval, reduceCtorEq, dropF_ch, dropF_cons, dropF_nil, cut, cond_true, cond_false, Int.natCast_zero, Int.natCast_add, Int.natCast_one, hput]; done) | rfl | (simp only [go_sem, seval, reduceCtorEq, dropF_ch, dropF_cons, dropF_nil, cut, cond_true, cond_false, Int.natCast_zero, Int.natCast_add, Int.natCast_one, hput]; rfl) | skip)
  have d2 : ¬ (q : Int) < N.ts.length := by omega
  obtain rfl : q = N.ts.length := by omega
  have hlb : ovr (setC N) N.ts N.ts.length = lblN N := rfl
  have hr0 : List.replicate k (0 : Int) = tab k fun _ => 0 := tab_rep k
  simp (disch := omega) only [go_sem, seval, reduceCtorEq, d2, hmin, hsh, hlb]
  refine And.intro ⟨by omega, by omega⟩ (And.intro ⟨by omega, by omega⟩ ?_)
  simp only [hr0]
  have hz1 : tab k (fun j => (bcT (wrkN N) 1 j).1) = tab k fun _ => 0 := tab_congr fun j _ => by
    rw [bcT]; split <;> rfl
  have hz2 : tab k (fun j => ((bcT (wrkN N) 1 j).2 : Int)) = tab k fun _ => 0 := tab_congr fun j _ => by
    rw [bcT]; split <;> rfl
  have hz1' : tab k (fun j => (bcT (wrkN N) (0 + 1) j).1) = tab k fun _ => 0 := hz1
  have hz2' : tab k (fun j => ((bcT (wrkN N) (0 + 1) j).2 : Int)) = tab k fun _ => 0 := hz2
  refine wpN_lp (k - 1) [false, false, false, false, false, false, false, false, false, false, false, false, false, false, true, true, true, true, true, false, false, false, false, false, false, false, false, false, false, false, false, false, false, false, false, false, false, false, false, false, false, false, false, false, false, false, false, false, false, false, false, false, false, false, false, false, false, false, false, false, false, false, false, false, true, true, true, true, true, true, true, true, true, true, true, true, true, true, true, true, true, true, true, true, true, true, true, true, true, true, true, true, true, true, true, true, true, true, true, true, true, true, true, true, true, true, true, true, true, true, true, true, true, true, true, true, true, true, true, true, true, true, true, true, true, true, true, true, true, true, true, true, true, true, true, true, true, true, true, false, false] (fun s => [(13, .d (.int ((s + 1 : Nat) : Int)))]) (fun s => [(3, iv (tab k fun j => (bcT (wrkN N) (s + 1) j).1)), (4, iv (tab k fun j => ((bcT (wrkN N) (s + 1) j).2 : Int)))]) (fun _ => by (simp only [go_sem, seval, reduceCtorEq, dropF_ch, dropF_cons, dropF_nil, cut, cond_true, cond_false]); first | done | rfl) (fun _ => by (simp only [go_sem, seval, reduceCtorEq, cut]); first | done | rfl) (Nat.le_of_ble_eq_true rfl) (by first | (simp only [go_sem, seval, reduceCtorEq, dropF_ch, dropF_cons, dropF_nil, cut, cond_true, cond_false, Int.natCast_zero, Int.natCast_add, Int.natCast_one, hz1, hz2, hz1', hz2']; done) | rfl | (simp only [go_sem, seval, reduceCtorEq, dropF_ch, dropF_cons, dropF_nil, cut, cond_true, cond_false, Int.natCast_zero, Int.natCast_add, Int.natCast_one, hz1, hz2, hz1', hz2']; rfl)) (by first | (simp only [go_sem, seval, reduceCtorEq, dropF_ch, dropF_cons, dropF_nil, cut, cond_true, cond_false, Int.natCast_zero, Int.natCast_add, Int.natCast_one, hz1, hz2, hz1', hz2']; done) | rfl | (simp only [go_sem, seval, reduceCtorEq, dropF_ch, dropF_cons, dropF_nil, cut, cond_true, cond_false, Int.natCast_zero, Int.natCast_add, Int.natCast_one, hz1, hz2, hz1', hz2']; rfl)) fun s hs => ?_
  unfold L1_impl_bestTable
  obtain ⟨S, hS⟩ : ∃ S : Nat, S = s + 1 := ⟨_, rfl⟩
  have hcS : ((s + 1 : Nat) : Int) = (S : Int) := by omega
  have hcN : ((s + 1 + 1 : Nat) : Int) = (S : Int) + 1 := by omega
  have hcN2 : ((s + 2 : Nat) : Int) = (S : Int) + 1 := by omega
  by_cases hlt : s < k - 1
  · have d1 : (S : Int) < k := by omega
    have hSk : S < k := by omega
    have hlow := low_eq (s := S) (by omega)
    have hq1 : tab k (fun j => (tbI N S 0 j).1) = tab k (fun j => (bcT (wrkN N) S j).1) := tab_congr fun j _ => by rw [tbI_zero]
    have hq2 : tab k (fun j => ((tbI N S 0 j).2 : Int)) = tab k (fun j => ((bcT (wrkN N) S j).2 : Int)) := tab_congr fun j _ => by rw [tbI_zero]
    rw [← hS]
    simp (disch := omega) only [go_sem, seval, reduceCtorEq, hcS, d1, hmin, hsh, hlow]
    (repeat (refine And.intro (by omega) ?_))
    refine wpN_lp (s) [false, false, false, false, false, false, false, false, false, false, false, false, false, false, false, false, true, true, true, false, false, false, false, false, false, false, false, false, false, false, false, false, false, false, false, false, false, false, false, false, false, false, false, false, false, false, false, false, false, false, false, false, false, false, false, false, false, false, false, false, false, false, false, false, false, false, false, false, false, false, false, false, false, false, true, true, true, true, true, true, true, true, true, true, true, true, true, true, true, true, true, true, true, true, true, true, true, true, true, true, true, true, true, true, true, true, true, true, true, true, true, true, true, true, true, true, true, true, true, true, true, true, true, true, true, true, true, true, true, true, true, true, true, true, true, true, true, true, true, false, false] (fun q => [(15, .d (.int ((q + 1 : Nat) : Int)))]) (fun q => [(3, iv (tab k fun j => (tbI N S q j).1)), (4, iv (tab k fun j => ((tbI N S q j).2 : Int)))]) (fun _ => by (simp only [go_sem, seval, reduceCtorEq, dropF_ch, dropF_cons, dropF_nil, cut, cond_true, cond_false]); first | done | rfl) (fun _ => by (simp only [go_sem, seval, reduceCtorEq, cut]); first | done | rfl) (Nat.le_of_ble_eq_true rfl) (by first | (simp only [go_sem, seval, reduceCtorEq, dropF_ch, dropF_cons, dropF_nil, cut, cond_true, cond_false, Int.natCast_zero, Int.natCast_add, Int.natCast_one, hq1, hq2]; done) | rfl | (simp only [go_sem, seval, reduceCtorEq, dropF_ch, dropF_cons, dropF_nil, cut, cond_true, cond_false, Int.natCast_zero, Int.natCast_add, Int.natCast_one, hq1, hq2]; rfl)) (by first | (simp only [go_sem, seval, reduceCtorEq, dropF_ch, dropF_cons, dropF_nil, cut, cond_true, cond_false, Int.natCast_zero, Int.natCast_add, Int.natCast_one, hq1, hq2]; done) | rfl | (simp only [go_sem, seval, reduceCtorEq, dropF_ch, dropF_cons, dropF_nil, cut, cond_true, cond_false, Int.natCast_zero, Int.natCast_add, Int.natCast_one, hq1, hq2]; rfl)) fun q hq => ?_
    unfold L0_impl_bestTable
    obtain ⟨A, hA⟩ : ∃ A : Nat, A = q + 1 := ⟨_, rfl⟩
    have hcA : ((q + 1 : Nat) : Int) = (A : Int) := by omega
    have hcM : ((q + 1 + 1 : Nat) : Int) = (A : Int) + 1 := by omega
    have hcM2 : ((q + 2 : Nat) : Int) = (A : Int) + 1 := by omega
    have t3 := tab_len k fun j => (tbI N S q j).1
    have t4 := tab_len k fun j => ((tbI N S q j).2 : Int)
    by_cases hltq : q < s
    · have d2 : (A : Int) < S := by omega
      have hAS : A < S := by omega
      have w1 := and_eq (a := A) (b := S) (by omega) (by omega)
      have w2 := and_eq (a := A) (b := lowW S) (by omega) (by have := low_le S; omega)
      cases hd : divW S A
      · have hnx : ∀ j, tbI N S (q + 1) j = tbI N S q j := tbI_next (by rw [tbI_same, tbI_same, ← hA, runT_no hd])
        have hn1 : tab k (fun j => (tbI N S (q + 1) j).1) = tab k (fun j => (tbI N S q j).1) := tab_congr fun j _ => by rw [hnx]
        have hn2 : tab k (fun j => ((tbI N S (q + 1) j).2 : Int)) = tab k (fun j => ((tbI N S q j).2 : Int)) := tab_congr fun j _ => by rw [hnx]
        cases c1 : (((A &&& S : Nat) : Int) != (A : Int))
        · have c2 : (((A &&& lowW S : Nat) : Int) == 0) = true := by
            cases c2 : (((A &&& lowW S : Nat) : Int) == 0)
            · rw [divW_is.2 ⟨c1, c2⟩] at hd; cases hd
            · rfl
          simp (disch := omega) only [go_sem, seval, reduceCtorEq, hcA, d2, w1, w2, c1, c2]
          (refine Next.drop [false, false, false, false, false, false, false, false, false, false, false, false, false, false, false, false, true, true, true, false, false, false, false, false, false, false, false, false, false, false, false, false, false, false, false, false, false, false, false, false, false, false, false, false, false, false, false, false, false, false, false, false, false, false, false, false, false, false, false, false, false, false, false, false, false, false, false, false, false, false, false, false, false, false, true, true, true, true, true, true, true, true, true, true, true, true, true, true, true, true, true, true, true, true, true, true, true, true, true, true, true, true, true, true, true, true, true, true, true, true, true, true, true, true, true, true, true, true, true, true, true, true, true, true, true, true, true, true, true, true, true, true, true, true, true, true, true, true, true, false, false] (by omega) (Nat.le_of_ble_eq_true rfl) ?_ ?_ <;> first | (simp only [go_sem, seval, reduceCtorEq, dropF_ch, dropF_cons, dropF_nil, cut, cond_true, cond_false, Int.natCast_zero, Int.natCast_add, Int.natCast_one, hn1, hn2, hcA, hcM, hcM2]; done) | rfl | (simp only [go_sem, seval, reduceCtorEq, dropF_ch, dropF_cons, dropF_nil, cut, cond_true, cond_false, Int.natCast_zero, Int.natCast_add, Int.natCast_one, hn1, hn2, hcA, hcM, hcM2]; rfl) | skip)
        · simp (disch := omega) only [go_sem, seval, reduceCtorEq, hcA, d2, w1, c1]
          (refine Next.drop [false, false, false, false, false, false, false, false, false, false, false, false, false, false, false, false, true, true, true, false, false, false, false, false, false, false, false, false, false, false, false, false, false, false, false, false, false, false, false, false, false, false, false, false, false, false, false, false, false, false, false, false, false, false, false, false, false, false, false, false, false, false, false, false, false, false, false, false, false, false, false, false, false, false, true, true, true, true, true, true, true, true, true, true, true, true, true, true, true, true, true, true, true, true, true, true, true, true, true, true, true, true, true, true, true, true, true, true, true, true, true, true, true, true, true, true, true, true, true, true, true, true, true, true, true, true, true, true, true, true, true, true, true, true, true, true, true, true, true, false, false] (by omega) (Nat.le_of_ble_eq_true rfl) ?_ ?_ <;> first | (simp only [go_sem, seval, reduceCtorEq, dropF_ch, dropF_cons, dropF_nil, cut, cond_true, cond_false, Int.natCast_zero, Int.natCast_add, Int.natCast_one, hn1, hn2, hcA, hcM, hcM2]; done) | rfl | (simp only [go_sem, seval, reduceCtorEq, dropF_ch, dropF_cons, dropF_nil, cut, cond_true, cond_false, Int.natCast_zero, Int.natCast_add, Int.natCast_one, hn1, hn2, hcA, hcM, hcM2]; rfl) | skip)
      · obtain ⟨c1, c2⟩ := divW_is.1 hd
        have w3 := sub_eq (by omega) hAS hd
        obtain ⟨B, hB⟩ : ∃ B, B = S - A := ⟨_, rfl⟩
        rw [← hB] at w3
        have hA0 : 0 < A := by omega
        have hBk : B < k := by omega
        have dA : (A : Int) < k := by omega
        have dB : (B : Int) < k := by omega
        have glA : (tabS k (lblN N))[A]? = some (lblN N A) := tabS_get (by omega)
        have glB : (tabS k (lblN N))[B]? = some (lblN N B) := tabS_get (by omega)
        have tl : (tabS k (lblN N)).length = k := tabS_len
        have lA := lbl_ok (s := A) hok
        have lB := lbl_ok (s := B) hok
        have lJ := lA.join lB
        have nA := lA.len
        have nB := lB.len
        have nJ := lJ.len
        have gcA : (tab k fun j => (tbI N S q j).1)[A]? = some (bcT (wrkN N) S A).1 := by rw [tab_get _ (by omega), tbI_other (by omega)]
        have gcB : (tab k fun j => (tbI N S q j).1)[B]? = some (bcT (wrkN N) S B).1 := by rw [tab_get _ (by omega), tbI_other (by omega)]
        have gcS : (tab k fun j => (tbI N S q j).1)[S]? = some (tbI N S q S).1 := tab_get _ (by omega)
        have gfS : (tab k fun j => ((tbI N S q j).2 : Int))[S]? = some ((tbI N S q S).2 : Int) := tab_get _ (by omega)
        have bA := hbc S A
        have bB := hbc S B
        have bW := hW A B
        have hml : ((joinL (lblN N A) (lblN N B)).map (atT (dimsR N.ts).1)).length = (joinL (lblN N A) (lblN N B)).length := List.length_map ..
        have htm : List.take (joinL (lblN N A) (lblN N B)).length ((joinL (lblN N A) (lblN N B)).map (atT (dimsR N.ts).1)) = (joinL (lblN N A) (lblN N B)).map (atT (dimsR N.ts).1) := List.take_of_length_le (by omega)
        simp (disch := omega) only [go_sem, seval, reduceCtorEq, hcA, d2, w1, w2, c1, c2, w3, dA, dB, glA, glB, tl]
        (repeat (refine And.intro (by omega) ?_))
        (refine gi_call (joinLabels_f (a := lblN N A) (b := lblN N B) (by omega) (by omega)) ?_ ?_ ?_; (focus (simp only [go_sem, seval, reduceCtorEq]; done)); (first | rfl | (focus (simp only [go_sem]; done))))
        simp (disch := omega) only [go_sem, seval, reduceCtorEq]
        (refine ti_call (axesOf_d (D := (dimsR N.ts).1) (L := joinL (lblN N A) (lblN N B)) hRl (by omega) lJ.bd) ?_ ?_ ?_; (focus (simp only [go_sem, seval, reduceCtorEq, htR]; done)); (first | rfl | (focus (simp only [go_sem]; done))))
        simp (disch := omega) only [go_sem, seval, reduceCtorEq]
        (refine ti_call (cappedProduct_d (ds := (joinL (lblN N A) (lblN N B)).map (atT (dimsR N.ts).1)) (by omega) (fun d hd => by obtain ⟨x, hx, rfl⟩ := List.mem_map.1 hd; have := lJ.dm x hx; omega)) ?_ ?_ ?_; (focus (simp only [go_sem, seval, reduceCtorEq, hml, htm]; done)); (first | rfl | (focus (simp only [go_sem]; done))))
        have hwk : min (prodI ((joinL (lblN N A) (lblN N B)).map (atT (dimsR N.ts).1))) 1000000000 = wrkN N A B := rfl
        obtain ⟨v, hv⟩ : ∃ v, v = min ((bcT (wrkN N) S A).1 + (bcT (wrkN N) S B).1 + wrkN N A B) 1000000000 := ⟨_, rfl⟩
        simp (disch := omega) only [go_sem, seval, reduceCtorEq, hwk, gcA, gcB, gcS, gfS, dA, dB, d1, ← hv]
        (repeat (refine And.intro (by omega) ?_))
        have hyes : ((tbI N S q S).2 = 0 ∨ v < (tbI N S q S).1) → tbI N S (q + 1) S = (v, A) := fun hh => by
          subst hv hB hA
          exact tbI_yes hd hh
        have hno : ¬ ((tbI N S q S).2 = 0 ∨ v < (tbI N S q S).1) → tbI N S (q + 1) S = tbI N S q S := fun hh => by
          subst hv hB hA
          exact tbI_ge hd hh
        cases f0 : (((tbI N S q S).2 : Int) == 0)
        · have f0' : (tbI N S q S).2 ≠ 0 := fun e => by rw [e] at f0; cases f0
          by_cases f1 : v < (tbI N S q S).1
          · have hy := hyes (.inr f1)
            have p1 := tbI_put1 hSk hy
            have p2 := tbI_put2 hSk hy
            simp (disch := omega) only [go_sem, seval, reduceCtorEq, f0, f1, d1, gcS, t3, t4]
            (repeat (refine And.intro (by omega) ?_))
            (refine Next.drop [false, false, false, false, false, false, false, false, false, false, false, false, false, false, false, false, true, true, true, false, false, false, false, false, false, false, false, false, false, false, false, false, false, false, false, false, false, false, false, false, false, false, false, false, false, false, false, false, false, false, false, false, false, false, false, false, false, false, false, false, false, false, false, false, false, false, false, false, false, false, false, false, false, false, true, true, true, true, true, true, true, true, true, true, true, true, true, true, true, true, true, true, true, true, true, true, true, true, true, true, true, true, true, true, true, true, true, true, true, true, true, true, true, true, true, true, true, true, true, true, true, true, true, true, true, true, true, true, true, true, true, true, true, true, true, true, true, true, true, false, false] (by omega) (Nat.le_of_ble_eq_true rfl) ?_ ?_ <;> first | (simp only [go_sem, seval, reduceCtorEq, dropF_ch, dropF_cons, dropF_nil, cut, cond_true, cond_false, Int.natCast_zero, Int.natCast_add, Int.natCast_one, p1, p2, hcA, hcM, hcM2]; done) | rfl | (simp only [go_sem, seval, reduceCtorEq, dropF_ch, dropF_cons, dropF_nil, cut, cond_true, cond_false, Int.natCast_zero, Int.natCast_add, Int.natCast_one, p1, p2, hcA, hcM, hcM2]; rfl) | skip)
          · have hnx : ∀ j, tbI N S (q + 1) j = tbI N S q j := tbI_next (hno fun hh => hh.elim f0' f1)
            have hn1 : tab k (fun j => (tbI N S (q + 1) j).1) = tab k (fun j => (tbI N S q j).1) := tab_congr fun j _ => by rw [hnx]
            have hn2 : tab k (fun j => ((tbI N S (q + 1) j).2 : Int)) = tab k (fun j => ((tbI N S q j).2 : Int)) := tab_congr fun j _ => by rw [hnx]
            simp (disch := omega) only [go_sem, seval, reduceCtorEq, f0, f1, d1, gcS, t3, t4]
            (repeat (refine And.intro (by omega) ?_))
            (refine Next.drop [false, false, false, false, false, false, false, false, false, false, false, false, false, false, false, false, true, true, true, false, false, false, false, false, false, false, false, false, false, false, false, false, false, false, false, false, false, false, false, false, false, false, false, false, false, false, false, false, false, false, false, false, false, false, false, false, false, false, false, false, false, false, false, false, false, false, false, false, false, false, false, false, false, false, true, true, true, true, true, true, true, true, true, true, true, true, true, true, true, true, true, true, true, true, true, true, true, true, true, true, true, true, true, true, true, true, true, true, true, true, true, true, true, true, true, true, true, true, true, true, true, true, true, true, true, true, true, true, true, true, true, true, true, true, true, true, true, true, true, false, false] (by omega) (Nat.le_of_ble_eq_true rfl) ?_ ?_ <;> first | (simp only [go_sem, seval, reduceCtorEq, dropF_ch, dropF_cons, dropF_nil, cut, cond_true, cond_false, Int.natCast_zero, Int.natCast_add, Int.natCast_one, hn1, hn2, hcA, hcM, hcM2]; done) | rfl | (simp only [go_sem, seval, reduceCtorEq, dropF_ch, dropF_cons, dropF_nil, cut, cond_true, cond_false, Int.natCast_zero, Int.natCast_add, Int.natCast_one, hn1, hn2, hcA, hcM, hcM2]; rfl) | skip)
        · have f0' : (tbI N S q S).2 = 0 := by have := beq_iff_eq.1 f0; omega
          have hy := hyes (.inl f0')
          have p1 := tbI_put1 hSk hy
          have p2 := tbI_put2 hSk hy
          simp (disch := omega) only [go_sem, seval, reduceCtorEq, f0, d1, gcS, t3, t4]
          (repeat (refine And.intro (by omega) ?_))
          (refine Next.drop [false, false, false, false, false, false, false, false, false, false, false, false, false, false, false, false, true, true, true, false, false, false, false, false, false, false, false, false, false, false, false, false, false, false, false, false, false, false, false, false, false, false, false, false, false, false, false, false, false, false, false, false, false, false, false, false, false, false, false, false, false, false, false, false, false, false, false, false, false, false, false, false, false, false, true, true, true, true, true, true, true, true, true, true, true, true, true, true, true, true, true, true, true, true, true, true, true, true, true, true, true, true, true, true, true, true, true, true, true, true, true, true, true, true, true, true, true, true, true, true, true, true, true, true, true, true, true, true, true, true, true, true, true, true, true, true, true, true, true, false, false] (by omega) (Nat.le_of_ble_eq_true rfl) ?_ ?_ <;> first | (simp only [go_sem, seval, reduceCtorEq, dropF_ch, dropF_cons, dropF_nil, cut, cond_true, cond_false, Int.natCast_zero, Int.natCast_add, Int.natCast_one, p1, p2, hcA, hcM, hcM2]; done) | rfl | (simp only [go_sem, seval, reduceCtorEq, dropF_ch, dropF_cons, dropF_nil, cut, cond_true, cond_false, Int.natCast_zero, Int.natCast_add, Int.natCast_one, p1, p2, hcA, hcM, hcM2]; rfl) | skip)
    · have d2 : ¬ (A : Int) < S := by omega
      obtain rfl : q = s := by omega
      have he1 : tab k (fun j => (tbI N S q j).1) = tab k (fun j => (bcT (wrkN N) (q + 1 + 1) j).1) := tab_congr fun j _ => by rw [tbI_end hS.symm, hS]
      have he2 : tab k (fun j => ((tbI N S q j).2 : Int)) = tab k (fun j => ((bcT (wrkN N) (q + 1 + 1) j).2 : Int)) := tab_congr fun j _ => by rw [tbI_end hS.symm, hS]
      simp (disch := omega) only [go_sem, seval, reduceCtorEq, hcA, d2]
      (refine Next.drop [false, false, false, false, false, false, false, false, false, false, false, false, false, false, true, true, true, true, true, false, false, false, false, false, false, false, false, false, false, false, false, false, false, false, false, false, false, false, false, false, false, false, false, false, false, false, false, false, false, false, false, false, false, false, false, false, false, false, false, false, false, false, false, false, true, true, true, true, true, true, true, true, true, true, true, true, true, true, true, true, true, true, true, true, true, true, true, true, true, true, true, true, true, true, true, true, true, true, true, true, true, true, true, true, true, true, true, true, true, true, true, true, true, true, true, true, true, true, true, true, true, true, true, true, true, true, true, true, true, true, true, true, true, true, true, true, true, true, true, false, false] (by omega) (Nat.le_of_ble_eq_true rfl) ?_ ?_ <;> first | (simp only [go_sem, seval, reduceCtorEq, dropF_ch, dropF_cons, dropF_nil, cut, cond_true, cond_false, Int.natCast_zero, Int.natCast_add, Int.natCast_one, he1, he2, hcS, hcN, hcN2]; done) | rfl | (simp only [go_sem, seval, reduceCtorEq, dropF_ch, dropF_cons, dropF_nil, cut, cond_true, cond_false, Int.natCast_zero, Int.natCast_add, Int.natCast_one, he1, he2, hcS, hcN, hcN2]; rfl) | skip)
  have d1 : ¬ (S : Int) < k := by omega
  have hsk : s + 1 = k := by omega
  have hE1 : tab k (fun j => (bcT (wrkN N) (s + 1) j).1) = tab k (fun j => (bcT (wrkN N) k j).1) := by rw [hsk]
  have hE2 : tab k (fun j => ((bcT (wrkN N) (s + 1) j).2 : Int)) = tab k (fun j => ((bcT (wrkN N) k j).2 : Int)) := by rw [hsk]
  simp (disch := omega) only [go_sem, seval, reduceCtorEq, hcS, d1, hmin, hsh, hE1, hE2]
  (refine FnEnd.mk (Nat.le_of_ble_eq_true rfl) rfl (of_decide_eq_true rfl) ?_ ?_ <;> try simp only [go_sem, seval, reduceCtorEq])
end Go.Proofs.Ytcgnehacihjnkaa
