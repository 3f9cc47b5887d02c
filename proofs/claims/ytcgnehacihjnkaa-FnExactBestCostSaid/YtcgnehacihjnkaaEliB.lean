/-
  Contracts: widths of eliminations. No condition.
-/
import Derived.Test.YtcgnehacihjnkaaEliA
namespace Go.Proofs.Ytcgnehacihjnkaa
open Go.RowKit Go.Lift Plain
set_option linter.unusedSimpArgs false
set_option linter.unusedVariables false
set_option maxRecDepth 100000

theorem labL_len (ts : List Ten) : (labL ts).length = ts.length := by simp [labL]
/-! ### By the reference -/
theorem l21Lists_d {N : Net} (h : NSz 1048576 N) : Does Try.prog 103 [netA N] [] (.d (lists (labL N.ts))) [] := by
  have hnl := h.l
  have hll := labL_len N.ts
  rw [lists, hll]
  refine Does.fz (g := true) (e := 1) (c := lsA (labL N.ts)) ?_ cellsD_lsA (by rw [ldv_len, Nat.mul_one, hll])
  (refine spec_of (by kernel_rfl) Try.func103 k_spec_l21Lists (fnOk (Nat.le_of_ble_eq_true rfl) ?_); unfold C_spec_l21Lists)
  (simp only [Nat.reduceSub, List.length_cons, List.length_nil, Nat.reduceAdd, ch_init1, ch_init2, ch_init3, ch_init4, ch_init5, ch_init6, ch_init7, ch_init8]; try simp only [ch_rep]); (simp only [go_sem, seval, reduceCtorEq, List.replicate])
  refine wpN_lp (N.ts.length) [false, false, false, false, false, true, true, false, false, false, false, true, true, true, true, true, true, true, true, true, false] (fun k => [(3, .own 1 0 k), (10, .d (.int k))]) (fun k => [(1, lsA (labL (N.ts.take k)))]) (fun _ => by (simp only [go_sem, seval, reduceCtorEq, dropF_ch, dropF_cons, dropF_nil, cut, cond_true, cond_false]); first | done | rfl) (fun _ => by (simp only [go_sem, seval, reduceCtorEq, cut]); first | done | rfl) (Nat.le_of_ble_eq_true rfl) (by first | (simp only [go_sem, seval, reduceCtorEq, dropF_ch, dropF_cons, dropF_nil, cut, cond_true, cond_false, Int.natCast_zero, Int.natCast_add, Int.natCast_one, List.take_zero, labL, List.map_nil, lsA_nil]; done) | rfl | (simp only [go_sem, seval, reduceCtorEq, dropF_ch, dropF_cons, dropF_nil, cut, cond_true, cond_false, Int.natCast_zero, Int.natCast_add, Int.natCast_one, List.take_zero, labL, List.map_nil, lsA_nil]; rfl)) (by first | (simp only [go_sem, seval, reduceCtorEq, dropF_ch, dropF_cons, dropF_nil, cut, cond_true, cond_false, Int.natCast_zero, Int.natCast_add, Int.natCast_one, List.take_zero, labL, List.map_nil, lsA_nil]; done) | rfl | (simp only [go_sem, seval, reduceCtorEq, dropF_ch, dropF_cons, dropF_nil, cut, cond_true, cond_false, Int.natCast_zero, Int.natCast_add, Int.natCast_one, List.take_zero, labL, List.map_nil, lsA_nil]; rfl)) fun k hk => ?_
  unfold L0_spec_l21Lists
  have htl : (labL (N.ts.take k)).length = k := by simp [labL]; omega
  by_cases hlt : k < N.ts.length
  · have d1 : (k : Int) < N.ts.length := by omega
    have g3 := tcs_cut (List.getElem?_eq_getElem hlt)
    simp (disch := omega) only [go_sem, seval, reduceCtorEq, d1, g3, htl]
    (repeat (refine And.intro (by omega) ?_))
    (refine Next.drop [false, false, false, false, false, true, true, false, false, false, false, true, true, true, true, true, true, true, true, true, false] (by omega) (Nat.le_of_ble_eq_true rfl) ?_ ?_ <;> first | (simp only [go_sem, seval, reduceCtorEq, dropF_ch, dropF_cons, dropF_nil, cut, cond_true, cond_false, Int.natCast_zero, Int.natCast_add, Int.natCast_one, labL_snoc hlt]; done) | rfl | (simp only [go_sem, seval, reduceCtorEq, dropF_ch, dropF_cons, dropF_nil, cut, cond_true, cond_false, Int.natCast_zero, Int.natCast_add, Int.natCast_one, labL_snoc hlt]; rfl) | skip)
  · have d1 : ¬ (k : Int) < N.ts.length := by omega
    obtain rfl : k = N.ts.length := by omega
    simp (disch := omega) only [go_sem, seval, reduceCtorEq, d1, List.take_length]
    (refine FnEnd.mk (Nat.le_of_ble_eq_true rfl) rfl (of_decide_eq_true rfl) ?_ ?_ <;> try simp only [go_sem, seval, reduceCtorEq])
theorem l21Without_d {xs : List Int} {x : Int} (h : xs.length ≤ 1048576) : Does Try.prog 106 [.d (ints xs), .d (.int x)] [] (.own 0 0 (xs.filter (· != x)).length) [some ⟨1, true, iv (xs.filter (· != x))⟩] := by
  (refine spec_of (by kernel_rfl) Try.func106 k_spec_l21Without (fnOk (Nat.le_of_ble_eq_true rfl) ?_); unfold C_spec_l21Without)
  (simp only [Nat.reduceSub, List.length_cons, List.length_nil, Nat.reduceAdd, ch_init1, ch_init2, ch_init3, ch_init4, ch_init5, ch_init6, ch_init7, ch_init8]; try simp only [ch_rep]); (simp only [go_sem, seval, reduceCtorEq, List.replicate])
  refine wpN_lp (xs.length) [false, false, false, false, false, false, false, true, true, false, false, false, true, true, true, true, true, true, true, true, true, true, true, false] (fun k => [(5, .own 0 0 ((xs.take k).filter (· != x)).length), (11, .d (.int k))]) (fun k => [(0, iv ((xs.take k).filter (· != x)))]) (fun _ => by (simp only [go_sem, seval, reduceCtorEq, dropF_ch, dropF_cons, dropF_nil, cut, cond_true, cond_false]); first | done | rfl) (fun _ => by (simp only [go_sem, seval, reduceCtorEq, cut]); first | done | rfl) (Nat.le_of_ble_eq_true rfl) (by first | (simp only [go_sem, seval, reduceCtorEq, dropF_ch, dropF_cons, dropF_nil, cut, cond_true, cond_false, Int.natCast_zero, Int.natCast_add, Int.natCast_one, List.take_zero, List.filter_nil, iv_nil]; done) | rfl | (simp only [go_sem, seval, reduceCtorEq, dropF_ch, dropF_cons, dropF_nil, cut, cond_true, cond_false, Int.natCast_zero, Int.natCast_add, Int.natCast_one, List.take_zero, List.filter_nil, iv_nil]; rfl)) (by first | (simp only [go_sem, seval, reduceCtorEq, dropF_ch, dropF_cons, dropF_nil, cut, cond_true, cond_false, Int.natCast_zero, Int.natCast_add, Int.natCast_one, List.take_zero, List.filter_nil, iv_nil]; done) | rfl | (simp only [go_sem, seval, reduceCtorEq, dropF_ch, dropF_cons, dropF_nil, cut, cond_true, cond_false, Int.natCast_zero, Int.natCast_add, Int.natCast_one, List.take_zero, List.filter_nil, iv_nil]; rfl)) fun k hk => ?_
  unfold L0_spec_l21Without
  have hfl := filter_len xs k (· != x)
  by_cases hlt : k < xs.length
  · have d1 : (k : Int) < xs.length := by omega
    have g : xs[k]? = some xs[k] := List.getElem?_eq_getElem hlt
    cases hb : (xs[k] != x)
    · have e := filter_no (p := (· != x)) hlt hb
      simp (disch := omega) only [go_sem, seval, reduceCtorEq, d1, g, hb]
      (refine Next.drop [false, false, false, false, false, false, false, true, true, false, false, false, true, true, true, true, true, true, true, true, true, true, true, false] (by omega) (Nat.le_of_ble_eq_true rfl) ?_ ?_ <;> first | (simp only [go_sem, seval, reduceCtorEq, dropF_ch, dropF_cons, dropF_nil, cut, cond_true, cond_false, Int.natCast_zero, Int.natCast_add, Int.natCast_one, e]; done) | rfl | (simp only [go_sem, seval, reduceCtorEq, dropF_ch, dropF_cons, dropF_nil, cut, cond_true, cond_false, Int.natCast_zero, Int.natCast_add, Int.natCast_one, e]; rfl) | skip)
    · have e := filter_yes (p := (· != x)) hlt hb
      simp (disch := omega) only [go_sem, seval, reduceCtorEq, d1, g, hb]
      (repeat (refine And.intro (by omega) ?_))
      (refine Next.drop [false, false, false, false, false, false, false, true, true, false, false, false, true, true, true, true, true, true, true, true, true, true, true, false] (by omega) (Nat.le_of_ble_eq_true rfl) ?_ ?_ <;> first | (simp only [go_sem, seval, reduceCtorEq, dropF_ch, dropF_cons, dropF_nil, cut, cond_true, cond_false, Int.natCast_zero, Int.natCast_add, Int.natCast_one, e, List.length_append]; done) | rfl | (simp only [go_sem, seval, reduceCtorEq, dropF_ch, dropF_cons, dropF_nil, cut, cond_true, cond_false, Int.natCast_zero, Int.natCast_add, Int.natCast_one, e, List.length_append]; rfl) | skip)
  · have d1 : ¬ (k : Int) < xs.length := by omega
    have htk : xs.take k = xs := List.take_of_length_le (by omega)
    simp (disch := omega) only [go_sem, seval, reduceCtorEq, d1, htk]
    (refine FnEnd.mk (Nat.le_of_ble_eq_true rfl) rfl (of_decide_eq_true rfl) ?_ ?_ <;> try simp only [go_sem, seval, reduceCtorEq])
theorem l21Bucket_d {L : List (List Int)} {x : Int} (h : LOk L) (hl : L.length ≤ 1048576) : Does Try.prog 105 [.d (lists L), .d (.int x)] [] (.tup [.own 0 0 (bucket L x).length, .own 1 0 (restTo L x L.length).length]) [some ⟨1, true, iv (bucket L x)⟩, some ⟨1, true, lsA (restTo L x L.length)⟩] := by
  (refine spec_of (by kernel_rfl) Try.func105 k_spec_l21Bucket (fnOk (Nat.le_of_ble_eq_true rfl) ?_); unfold C_spec_l21Bucket)
  (simp only [Nat.reduceSub, List.length_cons, List.length_nil, Nat.reduceAdd, ch_init1, ch_init2, ch_init3, ch_init4, ch_init5, ch_init6, ch_init7, ch_init8]; try simp only [ch_rep]); (simp only [go_sem, seval, reduceCtorEq, List.replicate])
  refine wpN_lp (L.length) [false, false, false, false, false, false, false, false, false, true, false, true, true, true, false, false, false, true, true, true, true, true, true, true, true, true, true, true, true, true, true, true, true, true, true, true, true, true, true, true, true, true, true, true, false, false] (fun k => [(6, .own 0 0 (buckTo L x k).length), (7, .own 1 0 (restTo L x k).length), (16, .d (.int k))]) (fun k => [(0, iv (buckTo L x k)), (1, lsA (restTo L x k))]) (fun _ => by (simp only [go_sem, seval, reduceCtorEq, dropF_ch, dropF_cons, dropF_nil, cut, cond_true, cond_false]); first | done | rfl) (fun _ => by (simp only [go_sem, seval, reduceCtorEq, cut]); first | done | rfl) (Nat.le_of_ble_eq_true rfl) (by first | (simp only [go_sem, seval, reduceCtorEq, dropF_ch, dropF_cons, dropF_nil, cut, cond_true, cond_false, Int.natCast_zero, Int.natCast_add, Int.natCast_one, buckTo, restTo, List.take_zero, List.filter_nil, lsA_nil, iv_nil]; done) | rfl | (simp only [go_sem, seval, reduceCtorEq, dropF_ch, dropF_cons, dropF_nil, cut, cond_true, cond_false, Int.natCast_zero, Int.natCast_add, Int.natCast_one, buckTo, restTo, List.take_zero, List.filter_nil, lsA_nil, iv_nil]; rfl)) (by first | (simp only [go_sem, seval, reduceCtorEq, dropF_ch, dropF_cons, dropF_nil, cut, cond_true, cond_false, Int.natCast_zero, Int.natCast_add, Int.natCast_one, buckTo, restTo, List.take_zero, List.filter_nil, lsA_nil, iv_nil]; done) | rfl | (simp only [go_sem, seval, reduceCtorEq, dropF_ch, dropF_cons, dropF_nil, cut, cond_true, cond_false, Int.natCast_zero, Int.natCast_add, Int.natCast_one, buckTo, restTo, List.take_zero, List.filter_nil, lsA_nil, iv_nil]; rfl)) fun k hk => ?_
  unfold L1_spec_l21Bucket
  have hrl := restTo_len (L := L) (x := x) (k := k)
  have hbk := buckTo_ok (x := x) h k hk
  have hbl := nodup_len hbk.1 hbk.2
  by_cases hlt : k < L.length
  · have d1 : (k : Int) < L.length := by omega
    have g : L[k]? = some L[k] := List.getElem?_eq_getElem hlt
    have hk1 := h L[k] (List.getElem_mem hlt)
    have hkl := nodup_len hk1.1 hk1.2
    simp (disch := omega) only [go_sem, seval, reduceCtorEq, d1, g]
    (refine ti_call (l05Find_d (xs := L[k]) (x := x) (by omega)) ?_ ?_ ?_; (focus (simp only [go_sem, seval, reduceCtorEq]; done)); (first | rfl | (focus (simp only [go_sem]; done))))
    by_cases hm : x ∈ L[k]
    · have c : ¬ place L[k] x < 0 := fun e => place_neg.1 e hm
      have hh := has_true.2 hm
      simp (disch := omega) only [go_sem, seval, reduceCtorEq, c]
      refine wpN_lp (L[k].length) [false, false, false, false, false, false, false, false, false, false, false, true, false, false, false, false, false, false, false, false, false, false, false, false, false, false, false, false, false, false, false, true, true, true, true, true, true, true, true, true, true, true, true, false, false, false] (fun q => [(6, .own 0 0 (joinLT (buckTo L x k) L[k] q).length), (30, .d (.int q))]) (fun q => [(0, iv (joinLT (buckTo L x k) L[k] q))]) (fun _ => by (simp only [go_sem, seval, reduceCtorEq, dropF_ch, dropF_cons, dropF_nil, cut, cond_true, cond_false]); first | done | rfl) (fun _ => by (simp only [go_sem, seval, reduceCtorEq, cut]); first | done | rfl) (Nat.le_of_ble_eq_true rfl) (by first | (simp only [go_sem, seval, reduceCtorEq, dropF_ch, dropF_cons, dropF_nil, cut, cond_true, cond_false, Int.natCast_zero, Int.natCast_add, Int.natCast_one, joinLT_zero]; done) | rfl | (simp only [go_sem, seval, reduceCtorEq, dropF_ch, dropF_cons, dropF_nil, cut, cond_true, cond_false, Int.natCast_zero, Int.natCast_add, Int.natCast_one, joinLT_zero]; rfl)) (by first | (simp only [go_sem, seval, reduceCtorEq, dropF_ch, dropF_cons, dropF_nil, cut, cond_true, cond_false, Int.natCast_zero, Int.natCast_add, Int.natCast_one, joinLT_zero]; done) | rfl | (simp only [go_sem, seval, reduceCtorEq, dropF_ch, dropF_cons, dropF_nil, cut, cond_true, cond_false, Int.natCast_zero, Int.natCast_add, Int.natCast_one, joinLT_zero]; rfl)) fun q hq => ?_
      unfold L0_spec_l21Bucket
      have hjl := joinLT_len (buckTo L x k) L[k] q
      by_cases hq : q < L[k].length
      · have d2 : (q : Int) < L[k].length := by omega
        have g2 : L[k][q]? = some L[k][q] := List.getElem?_eq_getElem hq
        simp (disch := omega) only [go_sem, seval, reduceCtorEq, d2, g2]
        (refine ti_call (l05Find_d (xs := joinLT (buckTo L x k) L[k] q) (x := L[k][q]) (by omega)) ?_ ?_ ?_; (focus (simp only [go_sem, seval, reduceCtorEq]; done)); (first | rfl | (focus (simp only [go_sem]; done))))
        by_cases hy : L[k][q] ∈ buckTo L x k
        · have hj : L[k][q] ∈ joinLT (buckTo L x k) L[k] q := by unfold joinLT; exact List.mem_append.2 (.inl hy)
          have c2 : ¬ place (joinLT (buckTo L x k) L[k] q) L[k][q] < 0 := fun e => place_neg.1 e hj
          simp (disch := omega) only [go_sem, seval, reduceCtorEq, c2]
          (refine Next.drop [false, false, false, false, false, false, false, false, false, false, false, true, false, false, false, false, false, false, false, false, false, false, false, false, false, false, false, false, false, false, false, true, true, true, true, true, true, true, true, true, true, true, true, false, false, false] (by omega) (Nat.le_of_ble_eq_true rfl) ?_ ?_ <;> first | (simp only [go_sem, seval, reduceCtorEq, dropF_ch, dropF_cons, dropF_nil, cut, cond_true, cond_false, Int.natCast_zero, Int.natCast_add, Int.natCast_one, joinLT_yes hq hy]; done) | rfl | (simp only [go_sem, seval, reduceCtorEq, dropF_ch, dropF_cons, dropF_nil, cut, cond_true, cond_false, Int.natCast_zero, Int.natCast_add, Int.natCast_one, joinLT_yes hq hy]; rfl) | skip)
        · have c2 : place (joinLT (buckTo L x k) L[k] q) L[k][q] < 0 := place_neg.2 (joinLT_fresh hq (fresh_of hk1.1 hq) hy)
          simp (disch := omega) only [go_sem, seval, reduceCtorEq, c2]
          (repeat (refine And.intro (by omega) ?_))
          (refine Next.drop [false, false, false, false, false, false, false, false, false, false, false, true, false, false, false, false, false, false, false, false, false, false, false, false, false, false, false, false, false, false, false, true, true, true, true, true, true, true, true, true, true, true, true, false, false, false] (by omega) (Nat.le_of_ble_eq_true rfl) ?_ ?_ <;> first | (simp only [go_sem, seval, reduceCtorEq, dropF_ch, dropF_cons, dropF_nil, cut, cond_true, cond_false, Int.natCast_zero, Int.natCast_add, Int.natCast_one, joinLT_no hq hy, List.length_append]; done) | rfl | (simp only [go_sem, seval, reduceCtorEq, dropF_ch, dropF_cons, dropF_nil, cut, cond_true, cond_false, Int.natCast_zero, Int.natCast_add, Int.natCast_one, joinLT_no hq hy, List.length_append]; rfl) | skip)
      · have d2 : ¬ (q : Int) < L[k].length := by omega
        obtain rfl : q = L[k].length := by omega
        simp (disch := omega) only [go_sem, seval, reduceCtorEq, d2, joinLT_all]
        (refine Next.drop [false, false, false, false, false, false, false, false, false, true, false, true, true, true, false, false, false, true, true, true, true, true, true, true, true, true, true, true, true, true, true, true, true, true, true, true, true, true, true, true, true, true, true, true, false, false] (by omega) (Nat.le_of_ble_eq_true rfl) ?_ ?_ <;> first | (simp only [go_sem, seval, reduceCtorEq, dropF_ch, dropF_cons, dropF_nil, cut, cond_true, cond_false, Int.natCast_zero, Int.natCast_add, Int.natCast_one, buckTo_yes hlt hh, restTo_no hlt hh]; done) | rfl | (simp only [go_sem, seval, reduceCtorEq, dropF_ch, dropF_cons, dropF_nil, cut, cond_true, cond_false, Int.natCast_zero, Int.natCast_add, Int.natCast_one, buckTo_yes hlt hh, restTo_no hlt hh]; rfl) | skip)
    · have c : place L[k] x < 0 := place_neg.2 hm
      have hh := has_false.2 hm
      simp (disch := omega) only [go_sem, seval, reduceCtorEq, c]
      (repeat (refine And.intro (by omega) ?_))
      (refine Next.drop [false, false, false, false, false, false, false, false, false, true, false, true, true, true, false, false, false, true, true, true, true, true, true, true, true, true, true, true, true, true, true, true, true, true, true, true, true, true, true, true, true, true, true, true, false, false] (by omega) (Nat.le_of_ble_eq_true rfl) ?_ ?_ <;> first | (simp only [go_sem, seval, reduceCtorEq, dropF_ch, dropF_cons, dropF_nil, cut, cond_true, cond_false, Int.natCast_zero, Int.natCast_add, Int.natCast_one, buckTo_no hlt hh, restTo_yes hlt hh, List.length_append]; done) | rfl | (simp only [go_sem, seval, reduceCtorEq, dropF_ch, dropF_cons, dropF_nil, cut, cond_true, cond_false, Int.natCast_zero, Int.natCast_add, Int.natCast_one, buckTo_no hlt hh, restTo_yes hlt hh, List.length_append]; rfl) | skip)
  · have d1 : ¬ (k : Int) < L.length := by omega
    obtain rfl : k = L.length := by omega
    simp (disch := omega) only [go_sem, seval, reduceCtorEq, d1]
    (refine FnEnd.mk (Nat.le_of_ble_eq_true rfl) rfl (of_decide_eq_true rfl) ?_ ?_ <;> try simp only [go_sem, seval, reduceCtorEq])
    all_goals rfl
end Go.Proofs.Ytcgnehacihjnkaa
