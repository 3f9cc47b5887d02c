/-
  Contracts: the best cost, by the reference; both sides. No condition.
-/
import Derived.Test.YtcgnehacihjnkaaBeD
namespace Go.Proofs.Ytcgnehacihjnkaa
open Go.RowKit Go.Lift Plain
set_option linter.unusedSimpArgs false
set_option linter.unusedVariables false
set_option maxRecDepth 100000

theorem lbl_dims {N : Net} (hok : netOk N = true) (s : Nat) : (lblN N s).map (dimN N.ts) = (lblN N s).map (atT (dimsR N.ts).1) :=
  List.map_congr_left fun x hx => (atT_net hok ((lbl_ok hok).bd x hx)).symm
theorem l20Shape_d {N : Net} {s : Nat} (h : NSz 1048576 N) (hok : netOk N = true) (h7 : N.ts.length ≤ 7) (hs : s < 128) :
    Does Try.prog 144 [netA N, .d (.int (s : Int))] [] (.agg [.d (ints (lblN N s)), .d (ints ((lblN N s).map (atT (dimsR N.ts).1))), .nil]) [] := by
  have hax := netOk_ax hok
  have hml : ((lblN N s).map (atT (dimsR N.ts).1)).length = (lblN N s).length := List.length_map ..
  (refine spec_of (by kernel_rfl) Try.func144 k_spec_l20Shape (fnOk (Nat.le_of_ble_eq_true rfl) ?_); unfold C_spec_l20Shape)
  (simp only [Nat.reduceSub, List.length_cons, List.length_nil, Nat.reduceAdd, ch_init1, ch_init2, ch_init3, ch_init4, ch_init5, ch_init6, ch_init7, ch_init8]; try simp only [ch_rep]); (simp only [go_sem, seval, reduceCtorEq, List.replicate])
  have hI0 : ∀ i, i < 0 → s ≠ 2 ^ i := fun i hi => absurd hi (Nat.not_lt_zero i)
  refine wpN_lpI (N.ts.length) [false, false, false, false, false, true, true, false, false, false, false, false, true, true, true, true, true, true, true, true, true, true, true, true, true, true, false, false, false, false, false, false, false, false, false] (fun k => ∀ i, i < k → s ≠ 2 ^ i) (fun k => [(11, .d (.int k))]) (fun k => []) (fun _ => by (simp only [go_sem, seval, reduceCtorEq, dropF_ch, dropF_cons, dropF_nil, cut, cond_true, cond_false]); first | done | rfl) (fun _ => by (simp only [go_sem, seval, reduceCtorEq, cut]); first | done | rfl) (hI0) (Nat.le_of_ble_eq_true rfl) (by first | (simp only [go_sem, seval, reduceCtorEq, dropF_ch, dropF_cons, dropF_nil, cut, cond_true, cond_false, Int.natCast_zero, Int.natCast_add, Int.natCast_one]; done) | rfl | (simp only [go_sem, seval, reduceCtorEq, dropF_ch, dropF_cons, dropF_nil, cut, cond_true, cond_false, Int.natCast_zero, Int.natCast_add, Int.natCast_one]; rfl)) (by first | (simp only [go_sem, seval, reduceCtorEq, dropF_ch, dropF_cons, dropF_nil, cut, cond_true, cond_false, Int.natCast_zero, Int.natCast_add, Int.natCast_one]; done) | rfl | (simp only [go_sem, seval, reduceCtorEq, dropF_ch, dropF_cons, dropF_nil, cut, cond_true, cond_false, Int.natCast_zero, Int.natCast_add, Int.natCast_one]; rfl)) fun k hk hi => ?_
  unfold L0_spec_l20Shape
  by_cases hlt : k < N.ts.length
  · have d1 : (k : Int) < N.ts.length := by omega
    have g3 := tcs_cut (List.getElem?_eq_getElem hlt)
    have hmk : min k 64 = k := by omega
    have hsk := shl_eq (k := k) (by omega)
    have hdn := dims_net hok (List.getElem_mem hlt)
    by_cases he : s = 2 ^ k
    · have c1 : ((s : Int) == ((2 ^ k : Nat) : Int)) = true := beq_iff_eq.2 (by rw [he])
      have hlb : lblN N s = N.ts[k].labels := by rw [lblN, he]; exact ovr_hit hlt _ hlt
      have hdl : N.ts[k].dims = (lblN N s).map (atT (dimsR N.ts).1) := by rw [hlb, hdn]
      simp (disch := omega) only [go_sem, seval, reduceCtorEq, d1, g3, hmk, hsk, c1, ← hlb, hdl]
      (repeat (refine And.intro (by omega) ?_))
      (refine FnEnd.mk (Nat.le_of_ble_eq_true rfl) rfl (of_decide_eq_true rfl) ?_ ?_ <;> try simp only [go_sem, seval, reduceCtorEq])
    · have c1 : ((s : Int) == ((2 ^ k : Nat) : Int)) = false := beq_false_of_ne (by omega)
      have hI : ∀ i, i < k + 1 → s ≠ 2 ^ i := fun i hik => by
        by_cases e : i = k
        · subst e; exact he
        · exact hi i (by omega)
      simp (disch := omega) only [go_sem, seval, reduceCtorEq, d1, g3, hmk, hsk, c1]
      (repeat (refine And.intro (by omega) ?_))
      (refine NextI.drop [false, false, false, false, false, true, true, false, false, false, false, false, true, true, true, true, true, true, true, true, true, true, true, true, true, true, false, false, false, false, false, false, false, false, false] (by omega) (hI) (Nat.le_of_ble_eq_true rfl) ?_ ?_ <;> first | (simp only [go_sem, seval, reduceCtorEq, dropF_ch, dropF_cons, dropF_nil, cut, cond_true, cond_false, Int.natCast_zero, Int.natCast_add, Int.natCast_one]; done) | rfl | (simp only [go_sem, seval, reduceCtorEq, dropF_ch, dropF_cons, dropF_nil, cut, cond_true, cond_false, Int.natCast_zero, Int.natCast_add, Int.natCast_one]; rfl) | skip)
  · have d1 : ¬ (k : Int) < N.ts.length := by omega
    obtain rfl : k = N.ts.length := by omega
    have hlb : pickTo (setP N (s : Int)) 100 = lblN N s := (ovr_none (f := setC N) (ts := N.ts) N.ts.length hi).symm
    have hdd := lbl_dims hok s
    have hll := (lbl_ok (s := s) hok).len
    simp (disch := omega) only [go_sem, seval, reduceCtorEq, d1]
    (refine ti_call (l20Labels_f (s := (s : Int)) h hok ⟨by omega, by omega⟩) ?_ ?_ ?_; (focus (simp only [go_sem, seval, reduceCtorEq]; done)); (first | rfl | (focus (simp only [go_sem]; done))))
    simp (disch := omega) only [go_sem, seval, reduceCtorEq, hlb]
    (refine ti_call (l12Dims_f (L := lblN N s) h.l h.t hax (by omega)) ?_ ?_ ?_; (focus (simp only [go_sem, seval, reduceCtorEq]; done)); (first | rfl | (focus (simp only [go_sem]; done))))
    simp (disch := omega) only [go_sem, seval, reduceCtorEq, hdd]
    (refine FnEnd.mk (Nat.le_of_ble_eq_true rfl) rfl (of_decide_eq_true rfl) ?_ ?_ <;> try simp only [go_sem, seval, reduceCtorEq])
section
variable {N : Net} {S q j k A : Nat} {v : Int}
theorem tbS_same : tbS N S q S = runT (fun i => (bcT (wrkN N) S i).1) (wrkN N) S (q + 1) := if_pos rfl
theorem tbS_other (h : j ≠ S) : tbS N S q j = bcT (wrkN N) S j := if_neg h
theorem tbS_zero1 (hS : S < k) : (tab k fun j => (bcT (wrkN N) S j).1).take S ++ [1000000001] ++ (tab k fun j => (bcT (wrkN N) S j).1).drop (S + 1) = tab k fun j => (tbS N S 0 j).1 := tab_put hS fun i hi => by
  by_cases e : i = S
  · subst e; rw [if_pos rfl, tbS_same, runT_one]
  · rw [if_neg e, tbS_other e]
theorem tbS_zero2 : (tab k fun j => ((tbS N S 0 j).2 : Int)) = tab k fun j => ((bcT (wrkN N) S j).2 : Int) := tab_congr fun i _ => by
  by_cases e : i = S
  · subst e; rw [tbS_same, runT_one, bcT_ge _ (Nat.le_refl _)]
  · rw [tbS_other e]
theorem tbS_yes (hd : divW S (q + 1) = true) (hh : min ((bcT (wrkN N) S (q + 1)).1 + (bcT (wrkN N) S (S - (q + 1))).1 + wrkN N (q + 1) (S - (q + 1))) 1000000000 < (tbS N S q S).1) :
    tbS N S (q + 1) S = (min ((bcT (wrkN N) S (q + 1)).1 + (bcT (wrkN N) S (S - (q + 1))).1 + wrkN N (q + 1) (S - (q + 1))) 1000000000, q + 1) := by
  rw [tbS_same] at *
  exact runT_yes hd hh
theorem tbS_ge (hd : divW S (q + 1) = true) (hh : ¬ min ((bcT (wrkN N) S (q + 1)).1 + (bcT (wrkN N) S (S - (q + 1))).1 + wrkN N (q + 1) (S - (q + 1))) 1000000000 < (tbS N S q S).1) :
    tbS N S (q + 1) S = tbS N S q S := by
  rw [tbS_same] at *
  rw [tbS_same]
  exact runT_ge hd hh
theorem tbS_put1 (hS : S < k) (hy : tbS N S (q + 1) S = (v, A)) : (tab k fun j => (tbS N S q j).1).take S ++ [v] ++ (tab k fun j => (tbS N S q j).1).drop (S + 1) = tab k fun j => (tbS N S (q + 1) j).1 := tab_put hS fun i hi => by
  by_cases e : i = S
  · subst e; rw [if_pos rfl, hy]
  · rw [if_neg e, tbS_other e, tbS_other e]
theorem tbS_put2 (hS : S < k) (hy : tbS N S (q + 1) S = (v, A)) : (tab k fun j => ((tbS N S q j).2 : Int)).take S ++ [(A : Int)] ++ (tab k fun j => ((tbS N S q j).2 : Int)).drop (S + 1) = tab k fun j => ((tbS N S (q + 1) j).2 : Int) := tab_put hS fun i hi => by
  by_cases e : i = S
  · subst e; rw [if_pos rfl, hy]
  · rw [if_neg e, tbS_other e, tbS_other e]
theorem tbS_next (h : tbS N S (q + 1) S = tbS N S q S) : ∀ j, tbS N S (q + 1) j = tbS N S q j := fun j => by
  by_cases e : j = S
  · subst e; exact h
  · rw [tbS_other e, tbS_other e]
theorem tbS_end (hq : q + 1 = S) (hs : S < 128) (hl : S ≠ lowW S) : tbS N S q j = bcT (wrkN N) (S + 1) j := by
  obtain ⟨h1, h2⟩ := low_some hs hl
  unfold tbS
  rw [bcT, hq, toI_ne (runT_some _ _ h1 S h2)]
theorem bcT_low (hs : S < 128) (hl : S = lowW S) : bcT (wrkN N) (S + 1) j = bcT (wrkN N) S j := by
  rw [bcT]
  split
  · rename_i e
    rw [runT_none _ (low_none hs hl), e, bcT_ge _ (Nat.le_refl _)]; rfl
  · rfl
theorem tabS_snoc {f : Nat → List Int} : tabS S f ++ [f S] = tabS (S + 1) f := by simp [tabS, List.range_succ]
end
set_option maxHeartbeats 1600000 in
theorem l20Plan_d {N : Net} (h : NSz 1048576 N) (hok : netOk N = true) (h7 : N.ts.length ≤ 7) :
    Does Try.prog 74 [netA N] [] (.tup [.own 0 0 (2 ^ N.ts.length), .own 1 0 (2 ^ N.ts.length)])
      [some ⟨1, true, iv (tab (2 ^ N.ts.length) fun j => (bcT (wrkN N) (2 ^ N.ts.length) j).1)⟩, some ⟨1, true, iv (tab (2 ^ N.ts.length) fun j => ((bcT (wrkN N) (2 ^ N.ts.length) j).2 : Int))⟩] := by
  have hnl := h.l
  have hax := netOk_ax hok
  have hW := fun a b => (wrk_bd hok a b)
  have hWn : ∀ a b, 0 ≤ wrkN N a b := fun a b => by have := hW a b; omega
  have hbc := bcT_bd hWn
  have hmin : min N.ts.length 64 = N.ts.length := by omega
  have hsh := shl_eq (k := N.ts.length) (by omega)
  have hp7 : 2 ^ N.ts.length ≤ 2 ^ 7 := Nat.pow_le_pow_right (by omega) (by omega)
  have hp1 := Nat.two_pow_pos N.ts.length
  generalize hn : 2 ^ N.ts.length = n at *
  have hr0 : List.replicate n (0 : Int) = tab n fun _ => 0 := tab_rep n
  have hz1 : tab n (fun j => (bcT (wrkN N) 0 j).1) = tab n fun _ => 0 := rfl
  have hz2 : tab n (fun j => ((bcT (wrkN N) 0 j).2 : Int)) = tab n fun _ => 0 := rfl
  have hz3 : shA (dimsR N.ts).1 (tabS 0 (lblN N)) = [] := rfl
  (refine spec_of (by kernel_rfl) Try.func74 k_spec_l20Plan (fnOk (Nat.le_of_ble_eq_true rfl) ?_); unfold C_spec_l20Plan)
  (simp only [Nat.reduceSub, List.length_cons, List.length_nil, Nat.reduceAdd, ch_init1, ch_init2, ch_init3, ch_init4, ch_init5, ch_init6, ch_init7, ch_init8]; try simp only [ch_rep]); (simp only [go_sem, seval, reduceCtorEq, List.replicate])
  simp (disch := omega) only [go_sem, seval, reduceCtorEq, hmin, hsh]
  refine And.intro ⟨by omega, by omega⟩ (And.intro ⟨by omega, by omega⟩ ?_)
  simp only [hr0]
  refine wpN_lp (n) [false, false, false, false, false, false, false, false, false, true, true, true, true, true, true, false, false, false, false, false, false, false, false, false, true, true, true, true, true, true, true, true, true, true, true, true, true, true, true, true, true, true, true, true, true, true, true, true, true, true, true, true, true, true, true, true, true, true, true, true, true, true, true, true, true, true, true, true, true, true, true, true, true, true, true, true, true, true, true, true, true, true, true, true, true, true, true, true, true, true, true, true, true, true, true, true, true, true, true, true, true, true, true, true, true, true, true, false, false] (fun s => [(7, .own 3 0 s), (8, .d (.int s))]) (fun s => [(1, iv (tab n fun j => (bcT (wrkN N) s j).1)), (2, iv (tab n fun j => ((bcT (wrkN N) s j).2 : Int))), (3, shA (dimsR N.ts).1 (tabS s (lblN N)))]) (fun _ => by (simp only [go_sem, seval, reduceCtorEq, dropF_ch, dropF_cons, dropF_nil, cut, cond_true, cond_false]); first | done | rfl) (fun _ => by (simp only [go_sem, seval, reduceCtorEq, cut]); first | done | rfl) (Nat.le_of_ble_eq_true rfl) (by first | (simp only [go_sem, seval, reduceCtorEq, dropF_ch, dropF_cons, dropF_nil, cut, cond_true, cond_false, Int.natCast_zero, Int.natCast_add, Int.natCast_one, hz1, hz2, hz3]; done) | rfl | (simp only [go_sem, seval, reduceCtorEq, dropF_ch, dropF_cons, dropF_nil, cut, cond_true, cond_false, Int.natCast_zero, Int.natCast_add, Int.natCast_one, hz1, hz2, hz3]; rfl)) (by first | (simp only [go_sem, seval, reduceCtorEq, dropF_ch, dropF_cons, dropF_nil, cut, cond_true, cond_false, Int.natCast_zero, Int.natCast_add, Int.natCast_one, hz1, hz2, hz3]; done) | rfl | (simp only [go_sem, seval, reduceCtorEq, dropF_ch, dropF_cons, dropF_nil, cut, cond_true, cond_false, Int.natCast_zero, Int.natCast_add, Int.natCast_one, hz1, hz2, hz3]; rfl)) fun s hs => ?_
  unfold L1_spec_l20Plan
  have tS : (tabS s (lblN N)).length = s := tabS_len
  by_cases hlt : s < n
  · have d1 : (s : Int) < n := by omega
    have hlow := low_eq (s := s) (by omega)
    have hsn := shA_snoc (T := (dimsR N.ts).1) (L := tabS s (lblN N)) (lblN N s)
    rw [tabS_snoc] at hsn
    have hml : ((lblN N s).map (atT (dimsR N.ts).1)).length = (lblN N s).length := List.length_map ..
    rw [hml] at hsn
    simp (disch := omega) only [go_sem, seval, reduceCtorEq, hmin, hsh, d1]
    (refine ti_call (l20Shape_d (s := s) h hok h7 (by omega)) ?_ ?_ ?_; (focus (simp only [go_sem, seval, reduceCtorEq, hml]; done)); (first | rfl | (focus (simp only [go_sem]; done))))
    simp (disch := omega) only [go_sem, seval, reduceCtorEq, hml, hlow, tS]
    have t1 := tab_len n fun j => (bcT (wrkN N) s j).1
    cases c1 : ((s : Int) == (lowW s : Int))
    · have hne : s ≠ lowW s := fun e => by rw [← e, beq_self_eq_true] at c1; cases c1
      have z1 := tbS_zero1 (N := N) (S := s) hlt
      have z2 := tbS_zero2 (N := N) (S := s) (k := n)
      have hS3 : s ≠ 0 := fun e => by subst e; exact hne rfl
      simp (disch := omega) only [go_sem, seval, reduceCtorEq, c1, d1, t1, hsn]
      (repeat (refine And.intro (by omega) ?_))
      have w1' : ((1 : Nat) : Int) = 1 := rfl
      refine wpN_lp (s - 1) [false, false, false, false, false, false, false, false, false, false, false, true, true, true, true, false, false, false, false, false, false, false, false, false, false, false, false, false, false, false, false, false, false, false, false, false, false, false, false, false, false, false, false, false, false, false, false, true, true, true, true, true, true, true, true, true, true, true, true, true, true, true, true, true, true, true, true, true, true, true, true, true, true, true, true, true, true, true, true, true, true, true, true, true, true, true, true, true, true, true, true, true, true, true, true, true, true, true, true, true, true, true, true, true, true, true, true, false, false] (fun q => [(10, .d (.int ((q + 1 : Nat) : Int)))]) (fun q => [(1, iv (tab n fun j => (tbS N s q j).1)), (2, iv (tab n fun j => ((tbS N s q j).2 : Int)))]) (fun _ => by (simp only [go_sem, seval, reduceCtorEq, dropF_ch, dropF_cons, dropF_nil, cut, cond_true, cond_false]); first | done | rfl) (fun _ => by (simp only [go_sem, seval, reduceCtorEq, cut]); first | done | rfl) (Nat.le_of_ble_eq_true rfl) (by first | (simp only [go_sem, seval, reduceCtorEq, dropF_ch, dropF_cons, dropF_nil, cut, cond_true, cond_false, Int.natCast_zero, Int.natCast_add, Int.natCast_one, z1, z2]; done) | rfl | (simp only [go_sem, seval, reduceCtorEq, dropF_ch, dropF_cons, dropF_nil, cut, cond_true, cond_false, Int.natCast_zero, Int.natCast_add, Int.natCast_one, z1, z2]; rfl)) (by first | (simp only [go_sem, seval, reduceCtorEq, dropF_ch, dropF_cons, dropF_nil, cut, cond_true, cond_false, Int.natCast_zero, Int.natCast_add, Int.natCast_one, z1, z2]; done) | rfl | (simp only [go_sem, seval, reduceCtorEq, dropF_ch, dropF_cons, dropF_nil, cut, cond_true, cond_false, Int.natCast_zero, Int.natCast_add, Int.natCast_one, z1, z2]; rfl)) fun q hq => ?_
      unfold L0_spec_l20Plan
      obtain ⟨A, hA⟩ : ∃ A : Nat, A = q + 1 := ⟨_, rfl⟩
      have hcA : ((q + 1 : Nat) : Int) = (A : Int) := by omega
      have hcM : ((q + 1 + 1 : Nat) : Int) = (A : Int) + 1 := by omega
      have hcM2 : ((q + 2 : Nat) : Int) = (A : Int) + 1 := by omega
      have t3 := tab_len n fun j => (tbS N s q j).1
      have t4 := tab_len n fun j => ((tbS N s q j).2 : Int)
      by_cases hltq : q < s - 1
      · have d2 : (A : Int) < s := by omega
        have hAS : A < s := by omega
        have w1 := and_eq (a := A) (b := s) (by omega) (by omega)
        have w2 := and_eq (a := A) (b := lowW s) (by omega) (by have := low_le s; omega)
        cases hd : divW s A
        · have hnx : ∀ j, tbS N s (q + 1) j = tbS N s q j := tbS_next (by rw [tbS_same, tbS_same, ← hA, runT_no hd])
          have hn1 : tab n (fun j => (tbS N s (q + 1) j).1) = tab n (fun j => (tbS N s q j).1) := tab_congr fun j _ => by rw [hnx]
          have hn2 : tab n (fun j => ((tbS N s (q + 1) j).2 : Int)) = tab n (fun j => ((tbS N s q j).2 : Int)) := tab_congr fun j _ => by rw [hnx]
          cases c3 : (((A &&& s : Nat) : Int) != (A : Int))
          · have c2 : (((A &&& lowW s : Nat) : Int) == 0) = true := by
              cases c2 : (((A &&& lowW s : Nat) : Int) == 0)
              · rw [divW_is.2 ⟨c3, c2⟩] at hd; cases hd
              · rfl
            simp (disch := omega) only [go_sem, seval, reduceCtorEq, hcA, d2, w1, w2, c3, c2]
            (refine Next.drop [false, false, false, false, false, false, false, false, false, false, false, true, true, true, true, false, false, false, false, false, false, false, false, false, false, false, false, false, false, false, false, false, false, false, false, false, false, false, false, false, false, false, false, false, false, false, false, true, true, true, true, true, true, true, true, true, true, true, true, true, true, true, true, true, true, true, true, true, true, true, true, true, true, true, true, true, true, true, true, true, true, true, true, true, true, true, true, true, true, true, true, true, true, true, true, true, true, true, true, true, true, true, true, true, true, true, true, false, false] (by omega) (Nat.le_of_ble_eq_true rfl) ?_ ?_ <;> first | (simp only [go_sem, seval, reduceCtorEq, dropF_ch, dropF_cons, dropF_nil, cut, cond_true, cond_false, Int.natCast_zero, Int.natCast_add, Int.natCast_one, hn1, hn2, hcA, hcM, hcM2]; done) | rfl | (simp only [go_sem, seval, reduceCtorEq, dropF_ch, dropF_cons, dropF_nil, cut, cond_true, cond_false, Int.natCast_zero, Int.natCast_add, Int.natCast_one, hn1, hn2, hcA, hcM, hcM2]; rfl) | skip)
          · simp (disch := omega) only [go_sem, seval, reduceCtorEq, hcA, d2, w1, c3]
            (refine Next.drop [false, false, false, false, false, false, false, false, false, false, false, true, true, true, true, false, false, false, false, false, false, false, false, false, false, false, false, false, false, false, false, false, false, false, false, false, false, false, false, false, false, false, false, false, false, false, false, true, true, true, true, true, true, true, true, true, true, true, true, true, true, true, true, true, true, true, true, true, true, true, true, true, true, true, true, true, true, true, true, true, true, true, true, true, true, true, true, true, true, true, true, true, true, true, true, true, true, true, true, true, true, true, true, true, true, true, true, false, false] (by omega) (Nat.le_of_ble_eq_true rfl) ?_ ?_ <;> first | (simp only [go_sem, seval, reduceCtorEq, dropF_ch, dropF_cons, dropF_nil, cut, cond_true, cond_false, Int.natCast_zero, Int.natCast_add, Int.natCast_one, hn1, hn2, hcA, hcM, hcM2]; done) | rfl | (simp only [go_sem, seval, reduceCtorEq, dropF_ch, dropF_cons, dropF_nil, cut, cond_true, cond_false, Int.natCast_zero, Int.natCast_add, Int.natCast_one, hn1, hn2, hcA, hcM, hcM2]; rfl) | skip)
        · obtain ⟨c3, c2⟩ := divW_is.1 hd
          obtain ⟨B, hB⟩ : ∃ B, B = s - A := ⟨_, rfl⟩
          have hBc : (s : Int) - (A : Int) = (B : Int) := by omega
          have hA0 : 0 < A := by omega
          have dA : (A : Int) < n := by omega
          have dB : (B : Int) < n := by omega
          have dA1 : (A : Int) < (s + 1 : Nat) := by omega
          have dB1 : (B : Int) < (s + 1 : Nat) := by omega
          have tS1 : (tabS (s + 1) (lblN N)).length = s + 1 := tabS_len
          have gsA := shA_cut (T := (dimsR N.ts).1) (L := tabS (s + 1) (lblN N)) (k := A) (by omega)
          have gsB := shA_cut (T := (dimsR N.ts).1) (L := tabS (s + 1) (lblN N)) (k := B) (by omega)
          rw [tabS_at] at gsA gsB
          have lA := lbl_ok (s := A) hok
          have lB := lbl_ok (s := B) hok
          have lJ := lA.join lB
          have nA := lA.len
          have nB := lB.len
          have nJ := lJ.len
          have gcA : (tab n fun j => (tbS N s q j).1)[A]? = some (bcT (wrkN N) s A).1 := by rw [tab_get _ (by omega), tbS_other (by omega)]
          have gcB : (tab n fun j => (tbS N s q j).1)[B]? = some (bcT (wrkN N) s B).1 := by rw [tab_get _ (by omega), tbS_other (by omega)]
          have gcS : (tab n fun j => (tbS N s q j).1)[s]? = some (tbS N s q s).1 := tab_get _ (by omega)
          have bA := hbc s A
          have bB := hbc s B
          have bW := hW A B
          have hmlA : ((lblN N A).map (atT (dimsR N.ts).1)).length = (lblN N A).length := List.length_map ..
          have hmlB : ((lblN N B).map (atT (dimsR N.ts).1)).length = (lblN N B).length := List.length_map ..
          simp (disch := omega) only [go_sem, seval, reduceCtorEq, hcA, d2, w1, w2, c3, c2, dA1, dB1, gsA, gsB, hBc, tS1]
          (repeat (refine And.intro (by omega) ?_))
          (refine gi_call (l08Join_t (T := (dimsR N.ts).1) (A := lblN N A) (B := lblN N B) lA.nd nA lB.nd nB) ?_ ?_ ?_; (focus (simp only [go_sem, seval, reduceCtorEq, hmlA, hmlB]; done)); (first | rfl | (focus (simp only [go_sem]; done))))
          simp (disch := omega) only [go_sem, seval, reduceCtorEq, dA, dB, gcA, gcB, hBc]
          (repeat (refine And.intro (by omega) ?_))
          obtain ⟨J, hJ⟩ : ∃ J, J = joinL (lblN N A) (lblN N B) := ⟨_, rfl⟩
          rw [← hJ] at lJ nJ ⊢
          have hml : (J.map (atT (dimsR N.ts).1)).length = J.length := List.length_map ..
          have htj : List.take J.length (J.map (atT (dimsR N.ts).1)) = J.map (atT (dimsR N.ts).1) := List.take_of_length_le (by omega)
          have hJb : ∀ d ∈ J.map (atT (dimsR N.ts).1), 1 ≤ d ∧ d ≤ 100 := fun d hd => by
            obtain ⟨x, hx, rfl⟩ := List.mem_map.1 hd
            have := lJ.dm x hx
            omega
          (refine gi_call (l05Product_d (ds := J.map (atT (dimsR N.ts).1)) (lim := 1000000000) (by omega) hJb (by omega)) ?_ ?_ ?_; (focus (simp only [go_sem, seval, reduceCtorEq, hml, htj]; done)); (first | rfl | (focus (simp only [go_sem]; done))))
          obtain ⟨v, hv⟩ : ∃ v, v = min ((bcT (wrkN N) s A).1 + (bcT (wrkN N) s B).1 + wrkN N A B) 1000000000 := ⟨_, rfl⟩
          have hpp := prodI_pos (J.map (atT (dimsR N.ts).1)) fun d hd => (hJb d hd).1
          have hwk : wrkN N A B = min (prodI (J.map (atT (dimsR N.ts).1))) 1000000000 := by rw [wrkN, ← hJ]; rfl
          have hvv : min 1000000000 ((bcT (wrkN N) s A).1 + (bcT (wrkN N) s B).1 + min (prodI (J.map (atT (dimsR N.ts).1))) 1000000001) = v := by rw [hv, hwk]; omega
          have hyes : v < (tbS N s q s).1 → tbS N s (q + 1) s = (v, A) := fun hh => by
            clear hvv
            subst hv hB hA
            exact tbS_yes hd hh
          have hno : ¬ v < (tbS N s q s).1 → tbS N s (q + 1) s = tbS N s q s := fun hh => by
            clear hvv
            subst hv hB hA
            exact tbS_ge hd hh
          by_cases f1 : v < (tbS N s q s).1
          · have hy := hyes f1
            have p1 := tbS_put1 hlt hy
            have p2 := tbS_put2 hlt hy
            simp (disch := omega) only [go_sem, seval, reduceCtorEq, hvv, gcS, d1, f1, t3, t4]
            (repeat (refine And.intro (by omega) ?_))
            (refine Next.drop [false, false, false, false, false, false, false, false, false, false, false, true, true, true, true, false, false, false, false, false, false, false, false, false, false, false, false, false, false, false, false, false, false, false, false, false, false, false, false, false, false, false, false, false, false, false, false, true, true, true, true, true, true, true, true, true, true, true, true, true, true, true, true, true, true, true, true, true, true, true, true, true, true, true, true, true, true, true, true, true, true, true, true, true, true, true, true, true, true, true, true, true, true, true, true, true, true, true, true, true, true, true, true, true, true, true, true, false, false] (by omega) (Nat.le_of_ble_eq_true rfl) ?_ ?_ <;> first | (simp only [go_sem, seval, reduceCtorEq, dropF_ch, dropF_cons, dropF_nil, cut, cond_true, cond_false, Int.natCast_zero, Int.natCast_add, Int.natCast_one, p1, p2, hcA, hcM, hcM2]; done) | rfl | (simp only [go_sem, seval, reduceCtorEq, dropF_ch, dropF_cons, dropF_nil, cut, cond_true, cond_false, Int.natCast_zero, Int.natCast_add, Int.natCast_one, p1, p2, hcA, hcM, hcM2]; rfl) | skip)
          · have hnx : ∀ j, tbS N s (q + 1) j = tbS N s q j := tbS_next (hno f1)
            have hn1 : tab n (fun j => (tbS N s (q + 1) j).1) = tab n (fun j => (tbS N s q j).1) := tab_congr fun j _ => by rw [hnx]
            have hn2 : tab n (fun j => ((tbS N s (q + 1) j).2 : Int)) = tab n (fun j => ((tbS N s q j).2 : Int)) := tab_congr fun j _ => by rw [hnx]
            simp (disch := omega) only [go_sem, seval, reduceCtorEq, hvv, gcS, d1, f1, t3, t4]
            (repeat (refine And.intro (by omega) ?_))
            (refine Next.drop [false, false, false, false, false, false, false, false, false, false, false, true, true, true, true, false, false, false, false, false, false, false, false, false, false, false, false, false, false, false, false, false, false, false, false, false, false, false, false, false, false, false, false, false, false, false, false, true, true, true, true, true, true, true, true, true, true, true, true, true, true, true, true, true, true, true, true, true, true, true, true, true, true, true, true, true, true, true, true, true, true, true, true, true, true, true, true, true, true, true, true, true, true, true, true, true, true, true, true, true, true, true, true, true, true, true, true, false, false] (by omega) (Nat.le_of_ble_eq_true rfl) ?_ ?_ <;> first | (simp only [go_sem, seval, reduceCtorEq, dropF_ch, dropF_cons, dropF_nil, cut, cond_true, cond_false, Int.natCast_zero, Int.natCast_add, Int.natCast_one, hn1, hn2, hcA, hcM, hcM2]; done) | rfl | (simp only [go_sem, seval, reduceCtorEq, dropF_ch, dropF_cons, dropF_nil, cut, cond_true, cond_false, Int.natCast_zero, Int.natCast_add, Int.natCast_one, hn1, hn2, hcA, hcM, hcM2]; rfl) | skip)
      · have d2 : ¬ (A : Int) < s := by omega
        have hqs : q + 1 = s := by omega
        have he1 : tab n (fun j => (tbS N s q j).1) = tab n (fun j => (bcT (wrkN N) (s + 1) j).1) := tab_congr fun j _ => by rw [tbS_end hqs (by omega) hne]
        have he2 : tab n (fun j => ((tbS N s q j).2 : Int)) = tab n (fun j => ((bcT (wrkN N) (s + 1) j).2 : Int)) := tab_congr fun j _ => by rw [tbS_end hqs (by omega) hne]
        simp (disch := omega) only [go_sem, seval, reduceCtorEq, hcA, d2]
        (refine Next.drop [false, false, false, false, false, false, false, false, false, true, true, true, true, true, true, false, false, false, false, false, false, false, false, false, true, true, true, true, true, true, true, true, true, true, true, true, true, true, true, true, true, true, true, true, true, true, true, true, true, true, true, true, true, true, true, true, true, true, true, true, true, true, true, true, true, true, true, true, true, true, true, true, true, true, true, true, true, true, true, true, true, true, true, true, true, true, true, true, true, true, true, true, true, true, true, true, true, true, true, true, true, true, true, true, true, true, true, false, false] (by omega) (Nat.le_of_ble_eq_true rfl) ?_ ?_ <;> first | (simp only [go_sem, seval, reduceCtorEq, dropF_ch, dropF_cons, dropF_nil, cut, cond_true, cond_false, Int.natCast_zero, Int.natCast_add, Int.natCast_one, he1, he2]; done) | rfl | (simp only [go_sem, seval, reduceCtorEq, dropF_ch, dropF_cons, dropF_nil, cut, cond_true, cond_false, Int.natCast_zero, Int.natCast_add, Int.natCast_one, he1, he2]; rfl) | skip)
    · have hle : s = lowW s := by have := beq_iff_eq.1 c1; omega
      have hb1 : tab n (fun j => (bcT (wrkN N) (s + 1) j).1) = tab n (fun j => (bcT (wrkN N) s j).1) := tab_congr fun j _ => by rw [bcT_low (by omega) hle]
      have hb2 : tab n (fun j => ((bcT (wrkN N) (s + 1) j).2 : Int)) = tab n (fun j => ((bcT (wrkN N) s j).2 : Int)) := tab_congr fun j _ => by rw [bcT_low (by omega) hle]
      simp (disch := omega) only [go_sem, seval, reduceCtorEq, c1, hsn]
      (repeat (refine And.intro (by omega) ?_))
      (refine Next.drop [false, false, false, false, false, false, false, false, false, true, true, true, true, true, true, false, false, false, false, false, false, false, false, false, true, true, true, true, true, true, true, true, true, true, true, true, true, true, true, true, true, true, true, true, true, true, true, true, true, true, true, true, true, true, true, true, true, true, true, true, true, true, true, true, true, true, true, true, true, true, true, true, true, true, true, true, true, true, true, true, true, true, true, true, true, true, true, true, true, true, true, true, true, true, true, true, true, true, true, true, true, true, true, true, true, true, true, false, false] (by omega) (Nat.le_of_ble_eq_true rfl) ?_ ?_ <;> first | (simp only [go_sem, seval, reduceCtorEq, dropF_ch, dropF_cons, dropF_nil, cut, cond_true, cond_false, Int.natCast_zero, Int.natCast_add, Int.natCast_one, hb1, hb2]; done) | rfl | (simp only [go_sem, seval, reduceCtorEq, dropF_ch, dropF_cons, dropF_nil, cut, cond_true, cond_false, Int.natCast_zero, Int.natCast_add, Int.natCast_one, hb1, hb2]; rfl) | skip)
  · have d1 : ¬ (s : Int) < n := by omega
    obtain rfl : s = n := by omega
    simp (disch := omega) only [go_sem, seval, reduceCtorEq, hmin, hsh, d1]
    (refine FnEnd.mk (Nat.le_of_ble_eq_true rfl) rfl (of_decide_eq_true rfl) ?_ ?_ <;> try simp only [go_sem, seval, reduceCtorEq])
theorem iBestCost_d {N : Net} (h : NSz 1048576 N) : Does Try.prog 25 [netA N] [] (.d (.int (bestC N))) [] := by
  (refine spec_of (by kernel_rfl) Try.func25 k_impl_BestCost (fnOk (Nat.le_of_ble_eq_true rfl) ?_); unfold C_impl_BestCost)
  (simp only [Nat.reduceSub, List.length_cons, List.length_nil, Nat.reduceAdd, ch_init1, ch_init2, ch_init3, ch_init4, ch_init5, ch_init6, ch_init7, ch_init8]; try simp only [ch_rep]); (simp only [go_sem, seval, reduceCtorEq, List.replicate])
  (refine ti_call (iNetworkOk_d h) ?_ ?_ ?_; (focus (simp only [go_sem, seval, reduceCtorEq]; done)); (first | rfl | (focus (simp only [go_sem]; done))))
  cases hok : netOk N
  · have e : bestC N = -1 := if_neg fun hh => by rw [hok] at hh; cases hh.1
    simp only [go_sem, seval, reduceCtorEq, hok, e]
    (refine FnEnd.mk (Nat.le_of_ble_eq_true rfl) rfl (of_decide_eq_true rfl) ?_ ?_ <;> try simp only [go_sem, seval, reduceCtorEq])
  by_cases b1 : (N.ts.length : Int) > 7
  · have e : bestC N = -1 := if_neg fun hh => by omega
    simp only [go_sem, seval, reduceCtorEq, hok, b1, e]
    (refine FnEnd.mk (Nat.le_of_ble_eq_true rfl) rfl (of_decide_eq_true rfl) ?_ ?_ <;> try simp only [go_sem, seval, reduceCtorEq])
  have e : bestC N = (bcT (wrkN N) (2 ^ N.ts.length) (2 ^ N.ts.length - 1)).1 := if_pos ⟨hok, by omega⟩
  have hp1 := Nat.two_pow_pos N.ts.length
  have hp7 : 2 ^ N.ts.length ≤ 2 ^ 7 := Nat.pow_le_pow_right (by omega) (by omega)
  simp only [go_sem, seval, reduceCtorEq, hok, b1]
  (refine ti_call (bestTable_d h hok (by omega)) ?_ ?_ ?_; (focus (simp only [go_sem, seval, reduceCtorEq]; done)); (first | rfl | (focus (simp only [go_sem]; done))))
  generalize 2 ^ N.ts.length = n at *
  have t3 := tab_len n fun j => (bcT (wrkN N) n j).1
  have hn1 : (n : Int) - 1 = ((n - 1 : Nat) : Int) := by omega
  have g := tab_get (fun j => (bcT (wrkN N) n j).1) (show n - 1 < n by omega)
  have hnn : ((n - 1 : Nat) : Int) < n := by omega
  simp (disch := omega) only [go_sem, seval, reduceCtorEq, hn1, g, hnn, e]
  (repeat (refine And.intro (by omega) ?_))
  (refine FnEnd.mk (Nat.le_of_ble_eq_true rfl) rfl (of_decide_eq_true rfl) ?_ ?_ <;> try simp only [go_sem, seval, reduceCtorEq])
theorem sBestCost_d {N : Net} (h : NSz 1048576 N) : Does Try.prog 24 [netA N] [] (.d (.int (bestC N))) [] := by
  (refine spec_of (by kernel_rfl) Try.func24 k_spec_BestCost (fnOk (Nat.le_of_ble_eq_true rfl) ?_); unfold C_spec_BestCost)
  (simp only [Nat.reduceSub, List.length_cons, List.length_nil, Nat.reduceAdd, ch_init1, ch_init2, ch_init3, ch_init4, ch_init5, ch_init6, ch_init7, ch_init8]; try simp only [ch_rep]); (simp only [go_sem, seval, reduceCtorEq, List.replicate])
  (refine ti_call (sNetworkOk_d h) ?_ ?_ ?_; (focus (simp only [go_sem, seval, reduceCtorEq]; done)); (first | rfl | (focus (simp only [go_sem]; done))))
  cases hok : netOk N
  · have e : bestC N = -1 := if_neg fun hh => by rw [hok] at hh; cases hh.1
    simp only [go_sem, seval, reduceCtorEq, hok, e]
    (refine FnEnd.mk (Nat.le_of_ble_eq_true rfl) rfl (of_decide_eq_true rfl) ?_ ?_ <;> try simp only [go_sem, seval, reduceCtorEq])
  by_cases b1 : (N.ts.length : Int) > 7
  · have e : bestC N = -1 := if_neg fun hh => by omega
    simp only [go_sem, seval, reduceCtorEq, hok, b1, e]
    (refine FnEnd.mk (Nat.le_of_ble_eq_true rfl) rfl (of_decide_eq_true rfl) ?_ ?_ <;> try simp only [go_sem, seval, reduceCtorEq])
  have e : bestC N = (bcT (wrkN N) (2 ^ N.ts.length) (2 ^ N.ts.length - 1)).1 := if_pos ⟨hok, by omega⟩
  have hp1 := Nat.two_pow_pos N.ts.length
  have hp7 : 2 ^ N.ts.length ≤ 2 ^ 7 := Nat.pow_le_pow_right (by omega) (by omega)
  simp only [go_sem, seval, reduceCtorEq, hok, b1]
  (refine ti_call (l20Plan_d h hok (by omega)) ?_ ?_ ?_; (focus (simp only [go_sem, seval, reduceCtorEq]; done)); (first | rfl | (focus (simp only [go_sem]; done))))
  generalize 2 ^ N.ts.length = n at *
  have t3 := tab_len n fun j => (bcT (wrkN N) n j).1
  have hn1 : (n : Int) - 1 = ((n - 1 : Nat) : Int) := by omega
  have g := tab_get (fun j => (bcT (wrkN N) n j).1) (show n - 1 < n by omega)
  have hnn : ((n - 1 : Nat) : Int) < n := by omega
  simp (disch := omega) only [go_sem, seval, reduceCtorEq, hn1, g, hnn, e]
  (repeat (refine And.intro (by omega) ?_))
  (refine FnEnd.mk (Nat.le_of_ble_eq_true rfl) rfl (of_decide_eq_true rfl) ?_ ?_ <;> try simp only [go_sem, seval, reduceCtorEq])
end Go.Proofs.Ytcgnehacihjnkaa
