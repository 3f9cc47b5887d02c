/-
  Contracts: widths of eliminations. No condition.
-/
import Derived.Test.YtcgnehacihjnkaaEliA
namespace Go.Proofs.Ytcgnehacihjnkaa
open Go.RowKit Go.Lift Plain
set_option linter.unusedSimpArgs false
set_option linter.unusedVariables false
set_option maxRecDepth 100000

noncomputable def widthsL (N : Net) (xs : List Int) : List Int := bif elimOk N xs then widthsTo (labL N.ts) xs xs.length else []
theorem elimOk_len {N : Net} {xs : List Int} (h : elimOk N xs = true) : xs.length ≤ 100 := by
  simp only [elimOk, Bool.and_eq_true] at h
  have h1 := (of_decide_eq_true h.2).1
  have h2 : (closedL N).length ≤ 100 := by
    have h3 : (labelsL N).length ≤ 100 := by
      unfold labelsL
      split
      · exact pickTo_len _ _
      · simp
    exact Nat.le_trans (wol_len _ _) h3
  omega
theorem widthsL_sz {N : Net} {xs : List Int} : Sz 1048576 (widthsL N xs) := by
  unfold widthsL
  cases e : elimOk N xs
  · exact ⟨by simp, by simp⟩
  · have h1 := elimOk_len e
    simp only [elimOk, Bool.and_eq_true] at e
    refine ⟨?_, widthsTo_wf (labL_ok (netOk_ax e.1)) _⟩
    rw [cond_true, widthsTo_len]
    omega
theorem labL_len (ts : List Ten) : (labL ts).length = ts.length := by simp [labL]
theorem iEliminationWidths_d {N : Net} {xs : List Int} (h : NSz 1048576 N) (hL : Sz 1048576 xs) : Does Try.prog 47 [netA N, .d (ints xs)] [] (.own 0 0 (widthsL N xs).length) [some ⟨1, true, iv (widthsL N xs)⟩] := by
  (refine spec_of (by kernel_rfl) Try.func47 k_impl_EliminationWidths (fnOk (Nat.le_of_ble_eq_true rfl) ?_); unfold C_impl_EliminationWidths)
  (simp only [Nat.reduceSub, List.length_cons, List.length_nil, Nat.reduceAdd, ch_init1, ch_init2, ch_init3, ch_init4, ch_init5, ch_init6, ch_init7, ch_init8]; try simp only [ch_rep]); (simp only [go_sem, seval, reduceCtorEq, List.replicate])
  (refine ti_call (iEliminationOk_d h hL) ?_ ?_ ?_; (focus (simp only [go_sem, seval, reduceCtorEq]; done)); (first | rfl | (focus (simp only [go_sem]; done))))
  cases h1 : elimOk N xs
  · have e : widthsL N xs = [] := by simp [widthsL, h1]
    simp only [go_sem, seval, reduceCtorEq, h1, e]
    refine FnEnd.wk (Wk.nilE 4 1 _ _ rfl) ?_
    (refine FnEnd.mk (Nat.le_of_ble_eq_true rfl) rfl (of_decide_eq_true rfl) ?_ ?_ <;> try simp only [go_sem, seval, reduceCtorEq])
  have e : widthsL N xs = widthsTo (labL N.ts) xs xs.length := by simp [widthsL, h1]
  have hxl := elimOk_len h1
  have hok : netOk N = true := by simp only [elimOk, Bool.and_eq_true] at h1; exact h1.1
  have hl12 := (netOk_iff.1 hok).2.1
  have hlo := labL_ok (netOk_ax hok)
  have hll := labL_len N.ts
  simp only [go_sem, seval, reduceCtorEq, h1]
  (refine ti_call (labelLists_d h) ?_ ?_ ?_; (focus (simp only [go_sem, seval, reduceCtorEq]; done)); (first | rfl | (focus (simp only [go_sem]; done))))
  simp only [go_sem, seval, reduceCtorEq]
  (refine wpN_lwk (Wk.nilE 5 1 _ _ rfl) ?_; simp only [go_sem, seval, reduceCtorEq])
  have hz0 : elimTo (labL N.ts) xs 0 = labL N.ts := rfl
  refine wpN_lp (xs.length) [false, false, false, false, false, false, false, false, true, false, false, false, false, false, false, false, false, false, true, true, true, true, true, true, true, true, true, true, true, true, true, true, false] (fun k => [(5, .own 1 0 k), (6, .d (lists (elimTo (labL N.ts) xs k))), (17, .d (.int k))]) (fun k => [(1, iv (widthsTo (labL N.ts) xs k))]) (fun _ => by (simp only [go_sem, seval, reduceCtorEq, dropF_ch, dropF_cons, dropF_nil, cut, cond_true, cond_false]); first | done | rfl) (fun _ => by (simp only [go_sem, seval, reduceCtorEq, cut]); first | done | rfl) (Nat.le_of_ble_eq_true rfl) (by first | (simp only [go_sem, seval, reduceCtorEq, dropF_ch, dropF_cons, dropF_nil, cut, cond_true, cond_false, Int.natCast_zero, Int.natCast_add, Int.natCast_one, hz0, widthsTo, iv_nil]; done) | rfl | (simp only [go_sem, seval, reduceCtorEq, dropF_ch, dropF_cons, dropF_nil, cut, cond_true, cond_false, Int.natCast_zero, Int.natCast_add, Int.natCast_one, hz0, widthsTo, iv_nil]; rfl)) (by first | (simp only [go_sem, seval, reduceCtorEq, dropF_ch, dropF_cons, dropF_nil, cut, cond_true, cond_false, Int.natCast_zero, Int.natCast_add, Int.natCast_one, hz0, widthsTo, iv_nil]; done) | rfl | (simp only [go_sem, seval, reduceCtorEq, dropF_ch, dropF_cons, dropF_nil, cut, cond_true, cond_false, Int.natCast_zero, Int.natCast_add, Int.natCast_one, hz0, widthsTo, iv_nil]; rfl)) fun k hk => ?_
  unfold L0_impl_EliminationWidths
  have hwl := widthsTo_len (labL N.ts) xs k
  by_cases hlt : k < xs.length
  · have d1 : (k : Int) < xs.length := by omega
    have g : xs[k]? = some xs[k] := List.getElem?_eq_getElem hlt
    have gd : xs.getD k 0 = xs[k] := getD_of hlt
    have hel := elimTo_len (L := labL N.ts) (xs := xs) k
    have heo := elimTo_ok (xs := xs) hlo k
    have hw1 : widthsTo (labL N.ts) xs (k + 1) = widthsTo (labL N.ts) xs k ++ [((bucket (elimTo (labL N.ts) xs k) xs[k]).length : Int)] := by rw [widthsTo, gd]
    have he1 : elimTo (labL N.ts) xs (k + 1) = elimL (elimTo (labL N.ts) xs k) xs[k] := by rw [elimTo, gd]
    simp (disch := omega) only [go_sem, seval, reduceCtorEq, d1, g]
    (refine ti_call (bucketLabels_d (L := elimTo (labL N.ts) xs k) (x := xs[k]) heo (by omega)) ?_ ?_ ?_; (focus (simp only [go_sem, seval, reduceCtorEq]; done)); (first | rfl | (focus (simp only [go_sem]; done))))
    simp (disch := omega) only [go_sem, seval, reduceCtorEq, hwl]
    (repeat (refine And.intro (by omega) ?_))
    (refine ti_call (eliminateFrom_d (L := elimTo (labL N.ts) xs k) (x := xs[k]) heo (by omega)) ?_ ?_ ?_; (focus (simp only [go_sem, seval, reduceCtorEq]; done)); (first | rfl | (focus (simp only [go_sem]; done))))
    simp (disch := omega) only [go_sem, seval, reduceCtorEq]
    (refine Next.drop [false, false, false, false, false, false, false, false, true, false, false, false, false, false, false, false, false, false, true, true, true, true, true, true, true, true, true, true, true, true, true, true, false] (by omega) (Nat.le_of_ble_eq_true rfl) ?_ ?_ <;> first | (simp only [go_sem, seval, reduceCtorEq, dropF_ch, dropF_cons, dropF_nil, cut, cond_true, cond_false, Int.natCast_zero, Int.natCast_add, Int.natCast_one, hw1, he1]; done) | rfl | (simp only [go_sem, seval, reduceCtorEq, dropF_ch, dropF_cons, dropF_nil, cut, cond_true, cond_false, Int.natCast_zero, Int.natCast_add, Int.natCast_one, hw1, he1]; rfl) | skip)
  · have d1 : ¬ (k : Int) < xs.length := by omega
    obtain rfl : k = xs.length := by omega
    simp (disch := omega) only [go_sem, seval, reduceCtorEq, d1, e, hwl]
    (refine FnEnd.mk (Nat.le_of_ble_eq_true rfl) rfl (of_decide_eq_true rfl) ?_ ?_ <;> try simp only [go_sem, seval, reduceCtorEq])

/-! ### By the reference -/
theorem l21Lists_d {N : Net} (h : NSz 1048576 N) : Does Try.prog 103 [netA N] [] (.d (lists (labL N.ts))) [] := by
  have hnl := h.l
  have hll := labL_len N.ts
  rw [lists, hll]
  refine Does.fz (g := true) (e := 1) (c := lsA (labL N.ts)) ?_ cellsD_lsA (by rw [ldv_len, Nat.mul_one, hll])
  (refine spec_of (by kernel_rfl) Try.func103 k_spec_l21Lists (fnOk (Nat.le_of_ble_eq_true rfl) ?_); unfold C_spec_l21Lists)
  (simp only [Nat.reduceSub, List.length_cons, List.length_nil, Nat.reduceAdd, ch_init1, ch_init2, ch_init3, ch_init4, ch_init5, ch_init6, ch_init7, ch_init8]; try simp only [ch_rep]); (simp only [go_sem, seval, reduceCtorEq, List.replicate])
  refine wpN_lp (N.ts.length) [false, false, false, false, false, true, true, false, false, false, false, true, true, true, true, true, true, true, true, true, false] (fun k => [(3, .own 1 0 k), (10, .d (.int k))]) (fun k => [(1, lsA (labL (N.ts.take k)))]) (fun _ => by (simp only [go_sem, seval, reduceCtorEq, dropF_ch, dropF_cons, dropF_nil, cut, cond_true, cond_false]); first | done | rfl) (fun _ => by (simp only [go_sem, seval, reduceCtorEq, cut]); first | done | rfl) (Nat.le_of_ble_eq_true rfl) (by first | (simp only [go_sem, seval, reduceCtorEq, dropF_ch, dropF_cons, dropF_nil, cut, cond_true, cond_false, Int.natCast_zero, Int.natCast_add, Int.natCast_one, List.take_zero, labL, List.map_nil, lsA_nil]; done) | rfl | (simp only [go_sem, seval, reduceCtorEq, dropF_ch, dropF_cons, dropF_nil, cut, cond_true, cond_false, Int.natCast_zero, Int.natCast_add, Int.natCast_one, List.take_zero, labL, List.map_nil, lsA_nil]; rfl)) (by first | (simp only [go_sem, seval, reduceCtorEq, dropF_ch, dropF_cons, dropF_nil, cut, cond_true, cond_false, Int.natCast_zero, Int.natCast_add, Int.natCast_one, List.take_zero, labL, List.map_nil, lsA_nil]; done) | rfl | (simp only [go_sem, seval, reduceCtorEq, dropF_ch, dropF_cons, dropF_nil, cut, cond_true, cond_false, Int.natCast_zero, Int.natCast_add, Int.natCast_one, List.take_zero, labL, List.map_nil, lsA_nil]; rfl)) fun k hk => ?_
  unfold L0_spec_l21Lists
  have htl : (labL (N.ts.take k)).length = k := by simp [labL]; omega
  by_cases hlt : k < N.ts.length
  · have d1 : (k : Int) < N.ts.length := by omega
    have g3 := tcs_cut (List.getElem?_eq_getElem hlt)
    simp (disch := omega) only [go_sem, seval, reduceCtorEq, d1, g3, htl]
    (repeat (refine And.intro (by omega) ?_))
    (refine Next.drop [false, false, false, false, false, true, true, false, false, false, false, true, true, true, true, true, true, true, true, true, false] (by omega) (Nat.le_of_ble_eq_true rfl) ?_ ?_ <;> first | (simp only [go_sem, seval, reduceCtorEq, dropF_ch, dropF_cons, dropF_nil, cut, cond_true, cond_false, Int.natCast_zero, Int.natCast_add, Int.natCast_one, labL_snoc hlt]; done) | rfl | (simp only [go_sem, seval, reduceCtorEq, dropF_ch, dropF_cons, dropF_nil, cut, cond_true, cond_false, Int.natCast_zero, Int.natCast_add, Int.natCast_one, labL_snoc hlt]; rfl) | skip)
  · have d1 : ¬ (k : Int) < N.ts.length := by omega
    obtain rfl : k = N.ts.length := by omega
    simp (disch := omega) only [go_sem, seval, reduceCtorEq, d1, List.take_length]
    (refine FnEnd.mk (Nat.le_of_ble_eq_true rfl) rfl (of_decide_eq_true rfl) ?_ ?_ <;> try simp only [go_sem, seval, reduceCtorEq])
theorem l21Without_d {xs : List Int} {x : Int} (h : xs.length ≤ 1048576) : Does Try.prog 106 [.d (ints xs), .d (.int x)] [] (.own 0 0 (xs.filter (· != x)).length) [some ⟨1, true, iv (xs.filter (· != x))⟩] := by
  (refine spec_of (by kernel_rfl) Try.func106 k_spec_l21Without (fnOk (Nat.le_of_ble_eq_true rfl) ?_); unfold C_spec_l21Without)
  (simp only [Nat.reduceSub, List.length_cons, List.length_nil, Nat.reduceAdd, ch_init1, ch_init2, ch_init3, ch_init4, ch_init5, ch_init6, ch_init7, ch_init8]; try simp only [ch_rep]); (simp only [go_sem, seval, reduceCtorEq, List.replicate])
  refine wpN_lp (xs.length) [false, false, false, false, false, false, false, true, true, false, false, false, true, true, true, true, true, true, true, true, true, true, true, false] (fun k => [(5, .own 0 0 ((xs.take k).filter (· != x)).length), (11, .d (.int k))]) (fun k => [(0, iv ((xs.take k).filter (· != x)))]) (fun _ => by (simp only [go_sem, seval, reduceCtorEq, dropF_ch, dropF_cons, dropF_nil, cut, cond_true, cond_false]); first | done | rfl) (fun _ => by (simp only [go_sem, seval, reduceCtorEq, cut]); first | done | rfl) (Nat.le_of_ble_eq_true rfl) (by first | (simp only [go_sem, seval, reduceCtorEq, dropF_ch, dropF_cons, dropF_nil, cut, cond_true, cond_false, Int.natCast_zero, Int.natCast_add, Int.natCast_one, List.take_zero, List.filter_nil, iv_nil]; done) | rfl | (simp only [go_sem, seval, reduceCtorEq, dropF_ch, dropF_cons, dropF_nil, cut, cond_true, cond_false, Int.natCast_zero, Int.natCast_add, Int.natCast_one, List.take_zero, List.filter_nil, iv_nil]; rfl)) (by first | (simp only [go_sem, seval, reduceCtorEq, dropF_ch, dropF_cons, dropF_nil, cut, cond_true, cond_false, Int.natCast_zero, Int.natCast_add, Int.natCast_one, List.take_zero, List.filter_nil, iv_nil]; done) | rfl | (simp only [go_sem, seval, reduceCtorEq, dropF_ch, dropF_cons, dropF_nil, cut, cond_true, cond_false, Int.natCast_zero, Int.natCast_add, Int.natCast_one, List.take_zero, List.filter_nil, iv_nil]; rfl)) fun k hk => ?_
  unfold L0_spec_l21Without
  have hfl := filter_len xs k (· != x)
  by_cases hlt : k < xs.length
  · have d1 : (k : Int) < xs.length := by omega
    have g : xs[k]? = some xs[k] := List.getElem?_eq_getElem hlt
    cases hb : (xs[k] != x)
    · have e := filter_no (p := (· != x)) hlt hb
      simp (disch := omega) only [go_sem, seval, reduceCtorEq, d1, g, hb]
      (refine Next.drop [false, false, false, false, false, false, false, true, true, false, false, false, true, true, true, true, true, true, true, true, true, true, true, false] (by omega) (Nat.le_of_ble_eq_true rfl) ?_ ?_ <;> first | (simp only [go_sem, seval, reduceCtorEq, dropF_ch, dropF_cons, dropF_nil, cut, cond_true, cond_false, Int.natCast_zero, Int.natCast_add, Int.natCast_one, e]; done) | rfl | (simp only [go_sem, seval, reduceCtorEq, dropF_ch, dropF_cons, dropF_nil, cut, cond_true, cond_false, Int.natCast_zero, Int.natCast_add, Int.natCast_one, e]; rfl) | skip)
    · have e := filter_yes (p := (· != x)) hlt hb
      simp (disch := omega) only [go_sem, seval, reduceCtorEq, d1, g, hb]
      (repeat (refine And.intro (by omega) ?_))
      (refine Next.drop [false, false, false, false, false, false, false, true, true, false, false, false, true, true, true, true, true, true, true, true, true, true, true, false] (by omega) (Nat.le_of_ble_eq_true rfl) ?_ ?_ <;> first | (simp only [go_sem, seval, reduceCtorEq, dropF_ch, dropF_cons, dropF_nil, cut, cond_true, cond_false, Int.natCast_zero, Int.natCast_add, Int.natCast_one, e, List.length_append]; done) | rfl | (simp only [go_sem, seval, reduceCtorEq, dropF_ch, dropF_cons, dropF_nil, cut, cond_true, cond_false, Int.natCast_zero, Int.natCast_add, Int.natCast_one, e, List.length_append]; rfl) | skip)
  · have d1 : ¬ (k : Int) < xs.length := by omega
    have htk : xs.take k = xs := List.take_of_length_le (by omega)
    simp (disch := omega) only [go_sem, seval, reduceCtorEq, d1, htk]
    (refine FnEnd.mk (Nat.le_of_ble_eq_true rfl) rfl (of_decide_eq_true rfl) ?_ ?_ <;> try simp only [go_sem, seval, reduceCtorEq])
theorem l21Bucket_d {L : List (List Int)} {x : Int} (h : LOk L) (hl : L.length ≤ 1048576) : Does Try.prog 105 [.d (lists L), .d (.int x)] [] (.tup [.own 0 0 (bucket L x).length, .own 1 0 (restTo L x L.length).length]) [some ⟨1, true, iv (bucket L x)⟩, some ⟨1, true, lsA (restTo L x L.length)⟩] := by
  (refine spec_of (by kernel_rfl) Try.func105 k_spec_l21Bucket (fnOk (Nat.le_of_ble_eq_true rfl) ?_); unfold C_spec_l21Bucket)
  (simp only [Nat.reduceSub, List.length_cons, List.length_nil, Nat.reduceAdd, ch_init1, ch_init2, ch_init3, ch_init4, ch_init5, ch_init6, ch_init7, ch_init8]; try simp only [ch_rep]); (simp only [go_sem, seval, reduceCtorEq, List.replicate])
  refine wpN_lp (L.length) [false, false, false, false, false, false, false, false, false, true, false, true, true, true, false, false, false, true, true, true, true, true, true, true, true, true, true, true, true, true, true, true, true, true, true, true, true, true, true, true, true, true, true, true, false, false] (fun k => [(6, .own 0 0 (buckTo L x k).length), (7, .own 1 0 (restTo L x k).length), (16, .d (.int k))]) (fun k => [(0, iv (buckTo L x k)), (1, lsA (restTo L x k))]) (fun _ => by (simp only [go_sem, seval, reduceCtorEq, dropF_ch, dropF_cons, dropF_nil, cut, cond_true, cond_false]); first | done | rfl) (fun _ => by (simp only [go_sem, seval, reduceCtorEq, cut]); first | done | rfl) (Nat.le_of_ble_eq_true rfl) (by first | (simp only [go_sem, seval, reduceCtorEq, dropF_ch, dropF_cons, dropF_nil, cut, cond_true, cond_false, Int.natCast_zero, Int.natCast_add, Int.natCast_one, buckTo, restTo, List.take_zero, List.filter_nil, lsA_nil, iv_nil]; done) | rfl | (simp only [go_sem, seval, reduceCtorEq, dropF_ch, dropF_cons, dropF_nil, cut, cond_true, cond_false, Int.natCast_zero, Int.natCast_add, Int.natCast_one, buckTo, restTo, List.take_zero, List.filter_nil, lsA_nil, iv_nil]; rfl)) (by first | (simp only [go_sem, seval, reduceCtorEq, dropF_ch, dropF_cons, dropF_nil, cut, cond_true, cond_false, Int.natCast_zero, Int.natCast_add, Int.natCast_one, buckTo, restTo, List.take_zero, List.filter_nil, lsA_nil, iv_nil]; done) | rfl | (simp only [go_sem, seval, reduceCtorEq, dropF_ch, dropF_cons, dropF_nil, cut, cond_true, cond_false, Int.natCast_zero, Int.natCast_add, Int.natCast_one, buckTo, restTo, List.take_zero, List.filter_nil, lsA_nil, iv_nil]; rfl)) fun k hk => ?_
  unfold L1_spec_l21Bucket
  have hrl := restTo_len (L := L) (x := x) (k := k)
  have hbk := buckTo_ok (x := x) h k hk
  have hbl := nodup_len hbk.1 hbk.2
  by_cases hlt : k < L.length
  · have d1 : (k : Int) < L.length := by omega
    have g : L[k]? = some L[k] := List.getElem?_eq_getElem hlt
    have hk1 := h L[k] (List.getElem_mem hlt)
    have hkl := nodup_len hk1.1 hk1.2
    simp (disch := omega) only [go_sem, seval, reduceCtorEq, d1, g]
    (refine ti_call (l05Find_d (xs := L[k]) (x := x) (by omega)) ?_ ?_ ?_; (focus (simp only [go_sem, seval, reduceCtorEq]; done)); (first | rfl | (focus (simp only [go_sem]; done))))
    by_cases hm : x ∈ L[k]
    · have c : ¬ place L[k] x < 0 := fun e => place_neg.1 e hm
      have hh := has_true.2 hm
      simp (disch := omega) only [go_sem, seval, reduceCtorEq, c]
      refine wpN_lp (L[k].length) [false, false, false, false, false, false, false, false, false, false, false, true, false, false, false, false, false, false, false, false, false, false, false, false, false, false, false, false, false, false, false, true, true, true, true, true, true, true, true, true, true, true, true, false, false, false] (fun q => [(6, .own 0 0 (joinLT (buckTo L x k) L[k] q).length), (30, .d (.int q))]) (fun q => [(0, iv (joinLT (buckTo L x k) L[k] q))]) (fun _ => by (simp only [go_sem, seval, reduceCtorEq, dropF_ch, dropF_cons, dropF_nil, cut, cond_true, cond_false]); first | done | rfl) (fun _ => by (simp only [go_sem, seval, reduceCtorEq, cut]); first | done | rfl) (Nat.le_of_ble_eq_true rfl) (by first | (simp only [go_sem, seval, reduceCtorEq, dropF_ch, dropF_cons, dropF_nil, cut, cond_true, cond_false, Int.natCast_zero, Int.natCast_add, Int.natCast_one, joinLT_zero]; done) | rfl | (simp only [go_sem, seval, reduceCtorEq, dropF_ch, dropF_cons, dropF_nil, cut, cond_true, cond_false, Int.natCast_zero, Int.natCast_add, Int.natCast_one, joinLT_zero]; rfl)) (by first | (simp only [go_sem, seval, reduceCtorEq, dropF_ch, dropF_cons, dropF_nil, cut, cond_true, cond_false, Int.natCast_zero, Int.natCast_add, Int.natCast_one, joinLT_zero]; done) | rfl | (simp only [go_sem, seval, reduceCtorEq, dropF_ch, dropF_cons, dropF_nil, cut, cond_true, cond_false, Int.natCast_zero, Int.natCast_add, Int.natCast_one, joinLT_zero]; rfl)) fun q hq => ?_
      unfold L0_spec_l21Bucket
      have hjl := joinLT_len (buckTo L x k) L[k] q
      by_cases hq : q < L[k].length
      · have d2 : (q : Int) < L[k].length := by omega
        have g2 : L[k][q]? = some L[k][q] := List.getElem?_eq_getElem hq
        simp (disch := omega) only [go_sem, seval, reduceCtorEq, d2, g2]
        (refine ti_call (l05Find_d (xs := joinLT (buckTo L x k) L[k] q) (x := L[k][q]) (by omega)) ?_ ?_ ?_; (focus (simp only [go_sem, seval, reduceCtorEq]; done)); (first | rfl | (focus (simp only [go_sem]; done))))
        by_cases hy : L[k][q] ∈ buckTo L x k
        · have hj : L[k][q] ∈ joinLT (buckTo L x k) L[k] q := by unfold joinLT; exact List.mem_append.2 (.inl hy)
          have c2 : ¬ place (joinLT (buckTo L x k) L[k] q) L[k][q] < 0 := fun e => place_neg.1 e hj
          simp (disch := omega) only [go_sem, seval, reduceCtorEq, c2]
          (refine Next.drop [false, false, false, false, false, false, false, false, false, false, false, true, false, false, false, false, false, false, false, false, false, false, false, false, false, false, false, false, false, false, false, true, true, true, true, true, true, true, true, true, true, true, true, false, false, false] (by omega) (Nat.le_of_ble_eq_true rfl) ?_ ?_ <;> first | (simp only [go_sem, seval, reduceCtorEq, dropF_ch, dropF_cons, dropF_nil, cut, cond_true, cond_false, Int.natCast_zero, Int.natCast_add, Int.natCast_one, joinLT_yes hq hy]; done) | rfl | (simp only [go_sem, seval, reduceCtorEq, dropF_ch, dropF_cons, dropF_nil, cut, cond_true, cond_false, Int.natCast_zero, Int.natCast_add, Int.natCast_one, joinLT_yes hq hy]; rfl) | skip)
        · have c2 : place (joinLT (buckTo L x k) L[k] q) L[k][q] < 0 := place_neg.2 (joinLT_fresh hq (fresh_of hk1.1 hq) hy)
          simp (disch := omega) only [go_sem, seval, reduceCtorEq, c2]
          (repeat (refine And.intro (by omega) ?_))
          (refine Next.drop [false, false, false, false, false, false, false, false, false, false, false, true, false, false, false, false, false, false, false, false, false, false, false, false, false, false, false, false, false, false, false, true, true, true, true, true, true, true, true, true, true, true, true, false, false, false] (by omega) (Nat.le_of_ble_eq_true rfl) ?_ ?_ <;> first | (simp only [go_sem, seval, reduceCtorEq, dropF_ch, dropF_cons, dropF_nil, cut, cond_true, cond_false, Int.natCast_zero, Int.natCast_add, Int.natCast_one, joinLT_no hq hy, List.length_append]; done) | rfl | (simp only [go_sem, seval, reduceCtorEq, dropF_ch, dropF_cons, dropF_nil, cut, cond_true, cond_false, Int.natCast_zero, Int.natCast_add, Int.natCast_one, joinLT_no hq hy, List.length_append]; rfl) | skip)
      · have d2 : ¬ (q : Int) < L[k].length := by omega
        obtain rfl : q = L[k].length := by omega
        simp (disch := omega) only [go_sem, seval, reduceCtorEq, d2, joinLT_all]
        (refine Next.drop [false, false, false, false, false, false, false, false, false, true, false, true, true, true, false, false, false, true, true, true, true, true, true, true, true, true, true, true, true, true, true, true, true, true, true, true, true, true, true, true, true, true, true, true, false, false] (by omega) (Nat.le_of_ble_eq_true rfl) ?_ ?_ <;> first | (simp only [go_sem, seval, reduceCtorEq, dropF_ch, dropF_cons, dropF_nil, cut, cond_true, cond_false, Int.natCast_zero, Int.natCast_add, Int.natCast_one, buckTo_yes hlt hh, restTo_no hlt hh]; done) | rfl | (simp only [go_sem, seval, reduceCtorEq, dropF_ch, dropF_cons, dropF_nil, cut, cond_true, cond_false, Int.natCast_zero, Int.natCast_add, Int.natCast_one, buckTo_yes hlt hh, restTo_no hlt hh]; rfl) | skip)
    · have c : place L[k] x < 0 := place_neg.2 hm
      have hh := has_false.2 hm
      simp (disch := omega) only [go_sem, seval, reduceCtorEq, c]
      (repeat (refine And.intro (by omega) ?_))
      (refine Next.drop [false, false, false, false, false, false, false, false, false, true, false, true, true, true, false, false, false, true, true, true, true, true, true, true, true, true, true, true, true, true, true, true, true, true, true, true, true, true, true, true, true, true, true, true, false, false] (by omega) (Nat.le_of_ble_eq_true rfl) ?_ ?_ <;> first | (simp only [go_sem, seval, reduceCtorEq, dropF_ch, dropF_cons, dropF_nil, cut, cond_true, cond_false, Int.natCast_zero, Int.natCast_add, Int.natCast_one, buckTo_no hlt hh, restTo_yes hlt hh, List.length_append]; done) | rfl | (simp only [go_sem, seval, reduceCtorEq, dropF_ch, dropF_cons, dropF_nil, cut, cond_true, cond_false, Int.natCast_zero, Int.natCast_add, Int.natCast_one, buckTo_no hlt hh, restTo_yes hlt hh, List.length_append]; rfl) | skip)
  · have d1 : ¬ (k : Int) < L.length := by omega
    obtain rfl : k = L.length := by omega
    simp (disch := omega) only [go_sem, seval, reduceCtorEq, d1]
    (refine FnEnd.mk (Nat.le_of_ble_eq_true rfl) rfl (of_decide_eq_true rfl) ?_ ?_ <;> try simp only [go_sem, seval, reduceCtorEq])
    all_goals rfl
theorem sEliminationWidths_d {N : Net} {xs : List Int} (h : NSz 1048576 N) (hL : Sz 1048576 xs) : Does Try.prog 46 [netA N, .d (ints xs)] [] (.own 0 0 (widthsL N xs).length) [some ⟨1, true, iv (widthsL N xs)⟩] := by
  (refine spec_of (by kernel_rfl) Try.func46 k_spec_EliminationWidths (fnOk (Nat.le_of_ble_eq_true rfl) ?_); unfold C_spec_EliminationWidths)
  (simp only [Nat.reduceSub, List.length_cons, List.length_nil, Nat.reduceAdd, ch_init1, ch_init2, ch_init3, ch_init4, ch_init5, ch_init6, ch_init7, ch_init8]; try simp only [ch_rep]); (simp only [go_sem, seval, reduceCtorEq, List.replicate])
  (refine ti_call (sEliminationOk_d h hL) ?_ ?_ ?_; (focus (simp only [go_sem, seval, reduceCtorEq]; done)); (first | rfl | (focus (simp only [go_sem]; done))))
  cases h1 : elimOk N xs
  · have e : widthsL N xs = [] := by simp [widthsL, h1]
    simp only [go_sem, seval, reduceCtorEq, h1, e]
    refine FnEnd.wk (Wk.nilE 4 1 _ _ rfl) ?_
    (refine FnEnd.mk (Nat.le_of_ble_eq_true rfl) rfl (of_decide_eq_true rfl) ?_ ?_ <;> try simp only [go_sem, seval, reduceCtorEq])
  have e : widthsL N xs = widthsTo (labL N.ts) xs xs.length := by simp [widthsL, h1]
  have hxl := elimOk_len h1
  have hok : netOk N = true := by simp only [elimOk, Bool.and_eq_true] at h1; exact h1.1
  have hl12 := (netOk_iff.1 hok).2.1
  have hlo := labL_ok (netOk_ax hok)
  have hll := labL_len N.ts
  simp only [go_sem, seval, reduceCtorEq, h1]
  (refine ti_call (l21Lists_d h) ?_ ?_ ?_; (focus (simp only [go_sem, seval, reduceCtorEq]; done)); (first | rfl | (focus (simp only [go_sem]; done))))
  simp only [go_sem, seval, reduceCtorEq]
  have hz0 : elimTo (labL N.ts) xs 0 = labL N.ts := rfl
  refine wpN_lp (xs.length) [false, false, false, false, false, false, false, false, true, true, true, false, false, false, false, false, false, true, false, false, false, true, true, true, true, true, true, true, true, true, true, true, true, true, true, true, true, true, true, true, true, true, false] (fun k => [(6, .own 1 0 k), (5, .d (lists (elimTo (labL N.ts) xs k))), (20, .d (.int k))]) (fun k => [(1, iv (widthsTo (labL N.ts) xs k))]) (fun _ => by (simp only [go_sem, seval, reduceCtorEq, dropF_ch, dropF_cons, dropF_nil, cut, cond_true, cond_false]); first | done | rfl) (fun _ => by (simp only [go_sem, seval, reduceCtorEq, cut]); first | done | rfl) (Nat.le_of_ble_eq_true rfl) (by first | (simp only [go_sem, seval, reduceCtorEq, dropF_ch, dropF_cons, dropF_nil, cut, cond_true, cond_false, Int.natCast_zero, Int.natCast_add, Int.natCast_one, hz0, widthsTo, iv_nil]; done) | rfl | (simp only [go_sem, seval, reduceCtorEq, dropF_ch, dropF_cons, dropF_nil, cut, cond_true, cond_false, Int.natCast_zero, Int.natCast_add, Int.natCast_one, hz0, widthsTo, iv_nil]; rfl)) (by first | (simp only [go_sem, seval, reduceCtorEq, dropF_ch, dropF_cons, dropF_nil, cut, cond_true, cond_false, Int.natCast_zero, Int.natCast_add, Int.natCast_one, hz0, widthsTo, iv_nil]; done) | rfl | (simp only [go_sem, seval, reduceCtorEq, dropF_ch, dropF_cons, dropF_nil, cut, cond_true, cond_false, Int.natCast_zero, Int.natCast_add, Int.natCast_one, hz0, widthsTo, iv_nil]; rfl)) fun k hk => ?_
  unfold L0_spec_EliminationWidths
  have hwl := widthsTo_len (labL N.ts) xs k
  by_cases hlt : k < xs.length
  · have d1 : (k : Int) < xs.length := by omega
    have g : xs[k]? = some xs[k] := List.getElem?_eq_getElem hlt
    have gd : xs.getD k 0 = xs[k] := getD_of hlt
    have hel := elimTo_len (L := labL N.ts) (xs := xs) k
    have heo := elimTo_ok (xs := xs) hlo k
    have hbl := bucket_len heo xs[k]
    have hrl := restTo_len (L := elimTo (labL N.ts) xs k) (x := xs[k]) (k := (elimTo (labL N.ts) xs k).length)
    have hw1 : widthsTo (labL N.ts) xs (k + 1) = widthsTo (labL N.ts) xs k ++ [((bucket (elimTo (labL N.ts) xs k) xs[k]).length : Int)] := by rw [widthsTo, gd]
    have he1 : elimTo (labL N.ts) xs (k + 1) = elimL (elimTo (labL N.ts) xs k) xs[k] := by rw [elimTo, gd]
    simp (disch := omega) only [go_sem, seval, reduceCtorEq, d1, g]
    (refine ti_call (l21Bucket_d (L := elimTo (labL N.ts) xs k) (x := xs[k]) heo (by omega)) ?_ ?_ ?_; (focus (simp only [go_sem, seval, reduceCtorEq]; done)); (first | rfl | (focus (simp only [go_sem]; done))))
    simp (disch := omega) only [go_sem, seval, reduceCtorEq, hwl]
    (repeat (refine And.intro (by omega) ?_))
    (refine ti_call (l21Without_d (xs := bucket (elimTo (labL N.ts) xs k) xs[k]) (x := xs[k]) (by omega)) ?_ ?_ ?_; (focus (simp only [go_sem, seval, reduceCtorEq]; done)); (first | rfl | (focus (simp only [go_sem]; done))))
    simp (disch := omega) only [go_sem, seval, reduceCtorEq]
    (repeat (refine And.intro (by omega) ?_))
    have hT : (ldv (restTo (elimTo (labL N.ts) xs k) xs[k] (elimTo (labL N.ts) xs k).length ++ [(bucket (elimTo (labL N.ts) xs k) xs[k]).filter (· != xs[k])])).take ((restTo (elimTo (labL N.ts) xs k) xs[k] (elimTo (labL N.ts) xs k).length).length + 1) = ldv (restTo (elimTo (labL N.ts) xs k) xs[k] (elimTo (labL N.ts) xs k).length ++ [(bucket (elimTo (labL N.ts) xs k) xs[k]).filter (· != xs[k])]) := List.take_of_length_le (by simp [ldv])
    (refine Next.wk (Wk.freeze 5 (Nat.le_of_ble_eq_true rfl) rfl (cellsD_iv) rfl rfl) ?_); (simp only [go_sem, seval, reduceCtorEq, mapL_two])
    (refine Next.wk (Wk.freeze 3 (Nat.le_of_ble_eq_true rfl) rfl (cellsD_lsA) rfl rfl) ?_); (simp only [go_sem, seval, reduceCtorEq, mapL_two, hT])
    (refine Next.drop [false, false, false, false, false, false, false, false, true, true, true, false, false, false, false, false, false, true, false, false, false, true, true, true, true, true, true, true, true, true, true, true, true, true, true, true, true, true, true, true, true, true, false] (by omega) (Nat.le_of_ble_eq_true rfl) ?_ ?_ <;> first | (simp only [go_sem, seval, reduceCtorEq, dropF_ch, dropF_cons, dropF_nil, cut, cond_true, cond_false, Int.natCast_zero, Int.natCast_add, Int.natCast_one, hw1, he1, elimL, List.length_append]; done) | rfl | (simp only [go_sem, seval, reduceCtorEq, dropF_ch, dropF_cons, dropF_nil, cut, cond_true, cond_false, Int.natCast_zero, Int.natCast_add, Int.natCast_one, hw1, he1, elimL, List.length_append]; rfl) | skip)
  · have d1 : ¬ (k : Int) < xs.length := by omega
    obtain rfl : k = xs.length := by omega
    simp (disch := omega) only [go_sem, seval, reduceCtorEq, d1, e, hwl]
    (refine FnEnd.mk (Nat.le_of_ble_eq_true rfl) rfl (of_decide_eq_true rfl) ?_ ?_ <;> try simp only [go_sem, seval, reduceCtorEq])
end Go.Proofs.Ytcgnehacihjnkaa
