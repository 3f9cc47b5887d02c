/-
  Contracts: valid decompositions, in the reference. No condition.
-/
import Derived.Test.YtcgnehacihjnkaaDecB
namespace Go.Proofs.Ytcgnehacihjnkaa
open Go.RowKit Go.Lift Plain
set_option linter.unusedSimpArgs false
set_option linter.unusedVariables false
set_option maxRecDepth 100000

set_option maxHeartbeats 800000 in
theorem sDecompositionOk_d {N : Net} {B : List (List Int)} {P : List Int} (h : NSz 1048576 N) (hD : DSz 1048576 B P) : Does Try.prog 39 [netA N, decA B P] [] (.d (.bool (decB N B P))) [] := by
  have hbl := hD.b
  have hpl := hD.p.len
  have hnl := h.l
  have hol := h.o.len
  (refine spec_of (by kernel_rfl) Try.func39 k_spec_DecompositionOk (fnOk (Nat.le_of_ble_eq_true rfl) ?_); unfold C_spec_DecompositionOk)
  (simp only [Nat.reduceSub, List.length_cons, List.length_nil, Nat.reduceAdd, ch_init1, ch_init2, ch_init3, ch_init4, ch_init5, ch_init6, ch_init7, ch_init8]; try simp only [ch_rep]); (simp only [go_sem, seval, reduceCtorEq, List.replicate])
  (refine ti_call (sNetworkOk_d h) ?_ ?_ ?_; (focus (simp only [go_sem, seval, reduceCtorEq]; done)); (first | rfl | (focus (simp only [go_sem]; done))))
  cases hok : netOk N
  · have e : decB N B P = false := decB_no fun hh => by have := hh.1; rw [hok] at this; cases this
    simp only [go_sem, seval, reduceCtorEq, hok, e]
    (refine FnEnd.mk (Nat.le_of_ble_eq_true rfl) rfl (of_decide_eq_true rfl) ?_ ?_ <;> try simp only [go_sem, seval, reduceCtorEq])
  have hax := netOk_ax hok
  have hlm : (pickTo (labP N.ts) 100).length ≤ 100 := pickTo_len _ _
  simp only [go_sem, seval, reduceCtorEq, hok]
  (refine ti_call (l01In_d B.length 1 40) ?_ ?_ ?_; (focus (simp only [go_sem, seval, reduceCtorEq]; done)); (first | rfl | (focus (simp only [go_sem]; done))))
  by_cases b1 : 1 ≤ (B.length : Int) ∧ (B.length : Int) ≤ 40
  case neg =>
    have b1' := decide_eq_false b1
    have e : decB N B P = false := decB_no fun hh => b1 (by have := hh.2.1.1; omega)
    simp only [go_sem, seval, reduceCtorEq, b1', e]
    (refine FnEnd.mk (Nat.le_of_ble_eq_true rfl) rfl (of_decide_eq_true rfl) ?_ ?_ <;> try simp only [go_sem, seval, reduceCtorEq])
  have b1' := decide_eq_true b1
  by_cases b3 : P.length = B.length
  case neg =>
    have d3 : ((P.length : Int) != B.length) = true := by simp only [bne_iff_ne, ne_eq]; omega
    have e : decB N B P = false := decB_no fun hh => b3 hh.2.1.2.1
    simp (disch := omega) only [go_sem, seval, reduceCtorEq, b1', d3, e]
    (refine FnEnd.mk (Nat.le_of_ble_eq_true rfl) rfl (of_decide_eq_true rfl) ?_ ?_ <;> try simp only [go_sem, seval, reduceCtorEq])
  have d3 : ((P.length : Int) != B.length) = false := by simp only [bne_eq_false_iff_eq]; omega
  have g0 : P[0]? = some (P.getD 0 0) := by rw [getD_of (show 0 < P.length by omega)]; exact List.getElem?_eq_getElem (by omega)
  simp (disch := omega) only [go_sem, seval, reduceCtorEq, b1', d3]
  have hI0 : ∀ i (hi : i < B.length), i < 0 → PrOk P i ∧ BgOk N.ts B[i] := fun j _ hj => absurd hj (Nat.not_lt_zero j)
  refine wpN_lpI (B.length) [false, false, false, false, true, true, true, true, true, false, false, false, false, false, false, false, false, false, false, false, false, false, false, false, false, false, false, false, false, false, false, false, false, false, false, false, false, false, false, true, true, true, true, true, true, true, true, true, true, true, true, true, true, true, true, true, true, true, true, true, true, true, true, true, true, true, true, true, true, true, true, true, true, true, true, true, true, true, true, true, true, true, true, true, true, true, true, true, true, true, true, true, true, true, false, false, false, false, false, false, false, false, false, false, false, false, false, false, false, false, false, false, false, false, false, false, false, false, false, false, false, false, false, false, false, false, false, false, false, false, false, false, false, false, false, false, false, false, false, false, false, false, false, false, false, false, false, false, false, false, false, false, false, false, false, false, false, false] (fun k => ∀ i (hi : i < B.length), i < k → PrOk P i ∧ BgOk N.ts B[i]) (fun k => [(38, .d (.int k))]) (fun k => []) (fun _ => by (simp only [go_sem, seval, reduceCtorEq, dropF_ch, dropF_cons, dropF_nil, cut, cond_true, cond_false]); first | done | rfl) (fun _ => by (simp only [go_sem, seval, reduceCtorEq, cut]); first | done | rfl) (hI0) (Nat.le_of_ble_eq_true rfl) (by first | (simp only [go_sem, seval, reduceCtorEq, dropF_ch, dropF_cons, dropF_nil, cut, cond_true, cond_false, Int.natCast_zero, Int.natCast_add, Int.natCast_one]; done) | rfl | (simp only [go_sem, seval, reduceCtorEq, dropF_ch, dropF_cons, dropF_nil, cut, cond_true, cond_false, Int.natCast_zero, Int.natCast_add, Int.natCast_one]; rfl)) (by first | (simp only [go_sem, seval, reduceCtorEq, dropF_ch, dropF_cons, dropF_nil, cut, cond_true, cond_false, Int.natCast_zero, Int.natCast_add, Int.natCast_one]; done) | rfl | (simp only [go_sem, seval, reduceCtorEq, dropF_ch, dropF_cons, dropF_nil, cut, cond_true, cond_false, Int.natCast_zero, Int.natCast_add, Int.natCast_one]; rfl)) fun k hk hi => ?_
  unfold L4_spec_DecompositionOk
  by_cases hlt : k < B.length
  · have d1 : (k : Int) < B.length := by omega
    have dp : (k : Int) < P.length := by omega
    have d0 : (0 : Int) < P.length := by omega
    have g : B[k]? = some B[k] := List.getElem?_eq_getElem hlt
    have gp : P[k]? = some (P.getD k 0) := by rw [getD_of (show k < P.length by omega)]; exact List.getElem?_eq_getElem (by omega)
    have hs := (hD.e B[k] (List.getElem_mem hlt)).len
    have bad : ¬ (PrOk P k ∧ BgOk N.ts B[k]) → decB N B P = false := fun hb => decB_no fun hh => hb (hh.2.1.2.2 k hlt)
    by_cases hk0 : k = 0
    · have d2 : ((k : Int) == 0) = true := beq_iff_eq.2 (by omega)
      have d5 : ¬ (k : Int) > 0 := by omega
      by_cases b4 : P.getD 0 0 = -1
      case neg =>
        have d4 : (P.getD 0 0 != -1) = true := by simp only [bne_iff_ne, ne_eq]; exact b4
        have e := bad fun hh => b4 (hh.1.1 hk0)
        simp (disch := omega) only [go_sem, seval, reduceCtorEq, d1, g, d0, g0, d2, d4, e]
        (refine FnEnd.mk (Nat.le_of_ble_eq_true rfl) rfl (of_decide_eq_true rfl) ?_ ?_ <;> try simp only [go_sem, seval, reduceCtorEq])
      have d4 : (P.getD 0 0 != -1) = false := by simp only [bne_eq_false_iff_eq]; exact b4
      have hpr : PrOk P k := ⟨fun _ => b4, fun hh => by omega⟩
      simp (disch := omega) only [go_sem, seval, reduceCtorEq, d1, g, d0, g0, d2, d4, d5]
      have hJ0 : ∀ i (hi : i < B[k].length), i < 0 → dimN N.ts B[k][i] ≠ 0 ∧ (0 < i → B[k].getD (i - 1) 0 < B[k][i]) := fun j _ hj => absurd hj (Nat.not_lt_zero j)
      refine wpN_lpI (B[k].length) [false, false, false, false, true, false, false, true, true, false, false, false, false, false, false, false, false, false, false, false, false, false, false, false, false, false, false, false, false, false, false, false, false, false, false, false, false, false, false, false, false, false, false, false, false, false, false, false, false, false, false, false, false, false, false, false, false, false, false, false, false, false, false, false, false, false, false, false, false, false, true, true, true, true, true, true, true, true, true, true, true, true, true, true, true, true, true, true, true, true, true, true, true, false, false, false, false, false, false, false, false, false, false, false, false, false, false, false, false, false, false, false, false, false, false, false, false, false, false, false, false, false, false, false, false, false, false, false, false, false, false, false, false, false, false, false, false, false, false, false, false, false, false, false, false, false, false, false, false, false, false, false, false, false, false, false, false, false] (fun j => ∀ i (hi : i < B[k].length), i < j → dimN N.ts B[k][i] ≠ 0 ∧ (0 < i → B[k].getD (i - 1) 0 < B[k][i])) (fun j => [(69, .d (.int j))]) (fun j => []) (fun _ => by (simp only [go_sem, seval, reduceCtorEq, dropF_ch, dropF_cons, dropF_nil, cut, cond_true, cond_false]); first | done | rfl) (fun _ => by (simp only [go_sem, seval, reduceCtorEq, cut]); first | done | rfl) (hJ0) (Nat.le_of_ble_eq_true rfl) (by first | (simp only [go_sem, seval, reduceCtorEq, dropF_ch, dropF_cons, dropF_nil, cut, cond_true, cond_false, Int.natCast_zero, Int.natCast_add, Int.natCast_one]; done) | rfl | (simp only [go_sem, seval, reduceCtorEq, dropF_ch, dropF_cons, dropF_nil, cut, cond_true, cond_false, Int.natCast_zero, Int.natCast_add, Int.natCast_one]; rfl)) (by first | (simp only [go_sem, seval, reduceCtorEq, dropF_ch, dropF_cons, dropF_nil, cut, cond_true, cond_false, Int.natCast_zero, Int.natCast_add, Int.natCast_one]; done) | rfl | (simp only [go_sem, seval, reduceCtorEq, dropF_ch, dropF_cons, dropF_nil, cut, cond_true, cond_false, Int.natCast_zero, Int.natCast_add, Int.natCast_one]; rfl)) fun j hj hij => ?_
      unfold L3_spec_DecompositionOk
      by_cases hltj : j < B[k].length
      · have f1 : (j : Int) < B[k].length := by omega
        have gj : B[k][j]? = some B[k][j] := List.getElem?_eq_getElem hltj
        have badj : ¬ (dimN N.ts B[k][j] ≠ 0 ∧ (0 < j → B[k].getD (j - 1) 0 < B[k][j])) → decB N B P = false := fun hb => bad fun hh => hb (hh.2 j hltj)
        simp (disch := omega) only [go_sem, seval, reduceCtorEq, f1, gj]
        (refine ti_call (l12Dim_d (ts := N.ts) (x := B[k][j]) h.l h.t hax) ?_ ?_ ?_; (focus (simp only [go_sem, seval, reduceCtorEq]; done)); (first | rfl | (focus (simp only [go_sem]; done))))
        by_cases hne : dimN N.ts B[k][j] = 0
        · have e := badj fun hb => hb.1 hne
          have f6 : (dimN N.ts B[k][j] == 0) = true := beq_iff_eq.2 hne
          simp (disch := omega) only [go_sem, seval, reduceCtorEq, f6, e]
          (refine FnEnd.mk (Nat.le_of_ble_eq_true rfl) rfl (of_decide_eq_true rfl) ?_ ?_ <;> try simp only [go_sem, seval, reduceCtorEq])
        have f6 : (dimN N.ts B[k][j] == 0) = false := beq_false_of_ne hne
        by_cases hj0 : j = 0
        · have f2 : ¬ (j : Int) > 0 := by omega
          have hI := bg_next hltj ⟨hne, fun hb => by omega⟩ hij
          simp (disch := omega) only [go_sem, seval, reduceCtorEq, f6, f2]
          (refine NextI.drop [false, false, false, false, true, false, false, true, true, false, false, false, false, false, false, false, false, false, false, false, false, false, false, false, false, false, false, false, false, false, false, false, false, false, false, false, false, false, false, false, false, false, false, false, false, false, false, false, false, false, false, false, false, false, false, false, false, false, false, false, false, false, false, false, false, false, false, false, false, false, true, true, true, true, true, true, true, true, true, true, true, true, true, true, true, true, true, true, true, true, true, true, true, false, false, false, false, false, false, false, false, false, false, false, false, false, false, false, false, false, false, false, false, false, false, false, false, false, false, false, false, false, false, false, false, false, false, false, false, false, false, false, false, false, false, false, false, false, false, false, false, false, false, false, false, false, false, false, false, false, false, false, false, false, false, false, false, false] (by omega) (hI) (Nat.le_of_ble_eq_true rfl) ?_ ?_ <;> first | (simp only [go_sem, seval, reduceCtorEq, dropF_ch, dropF_cons, dropF_nil, cut, cond_true, cond_false, Int.natCast_zero, Int.natCast_add, Int.natCast_one]; done) | rfl | (simp only [go_sem, seval, reduceCtorEq, dropF_ch, dropF_cons, dropF_nil, cut, cond_true, cond_false, Int.natCast_zero, Int.natCast_add, Int.natCast_one]; rfl) | skip)
        · have f2 : (j : Int) > 0 := by omega
          have f3 : (j : Int) - 1 = ((j - 1 : Nat) : Int) := by omega
          have f4 : ((j - 1 : Nat) : Int) < B[k].length := by omega
          have gj1 : B[k][j - 1]? = some (B[k].getD (j - 1) 0) := by rw [getD_of (show j - 1 < B[k].length by omega)]; exact List.getElem?_eq_getElem (by omega)
          by_cases hge : B[k].getD (j - 1) 0 ≥ B[k][j]
          · have e := badj fun hb => by have := hb.2 (by omega); omega
            simp (disch := omega) only [go_sem, seval, reduceCtorEq, f6, f2, f3, f4, gj1, hge, e]
            (refine FnEnd.mk (Nat.le_of_ble_eq_true rfl) rfl (of_decide_eq_true rfl) ?_ ?_ <;> try simp only [go_sem, seval, reduceCtorEq])
          · have hI := bg_next hltj ⟨hne, fun _ => by omega⟩ hij
            simp (disch := omega) only [go_sem, seval, reduceCtorEq, f6, f2, f3, f4, gj1, hge]
            (refine NextI.drop [false, false, false, false, true, false, false, true, true, false, false, false, false, false, false, false, false, false, false, false, false, false, false, false, false, false, false, false, false, false, false, false, false, false, false, false, false, false, false, false, false, false, false, false, false, false, false, false, false, false, false, false, false, false, false, false, false, false, false, false, false, false, false, false, false, false, false, false, false, false, true, true, true, true, true, true, true, true, true, true, true, true, true, true, true, true, true, true, true, true, true, true, true, false, false, false, false, false, false, false, false, false, false, false, false, false, false, false, false, false, false, false, false, false, false, false, false, false, false, false, false, false, false, false, false, false, false, false, false, false, false, false, false, false, false, false, false, false, false, false, false, false, false, false, false, false, false, false, false, false, false, false, false, false, false, false, false, false] (by omega) (hI) (Nat.le_of_ble_eq_true rfl) ?_ ?_ <;> first | (simp only [go_sem, seval, reduceCtorEq, dropF_ch, dropF_cons, dropF_nil, cut, cond_true, cond_false, Int.natCast_zero, Int.natCast_add, Int.natCast_one]; done) | rfl | (simp only [go_sem, seval, reduceCtorEq, dropF_ch, dropF_cons, dropF_nil, cut, cond_true, cond_false, Int.natCast_zero, Int.natCast_add, Int.natCast_one]; rfl) | skip)
      · have f1 : ¬ (j : Int) < B[k].length := by omega
        have hI := bags_next hlt ⟨hpr, fun i hi => hij i hi (by omega)⟩ hi
        simp (disch := omega) only [go_sem, seval, reduceCtorEq, f1]
        (refine NextI.drop [false, false, false, false, true, true, true, true, true, false, false, false, false, false, false, false, false, false, false, false, false, false, false, false, false, false, false, false, false, false, false, false, false, false, false, false, false, false, false, true, true, true, true, true, true, true, true, true, true, true, true, true, true, true, true, true, true, true, true, true, true, true, true, true, true, true, true, true, true, true, true, true, true, true, true, true, true, true, true, true, true, true, true, true, true, true, true, true, true, true, true, true, true, true, false, false, false, false, false, false, false, false, false, false, false, false, false, false, false, false, false, false, false, false, false, false, false, false, false, false, false, false, false, false, false, false, false, false, false, false, false, false, false, false, false, false, false, false, false, false, false, false, false, false, false, false, false, false, false, false, false, false, false, false, false, false, false, false] (by omega) (hI) (Nat.le_of_ble_eq_true rfl) ?_ ?_ <;> first | (simp only [go_sem, seval, reduceCtorEq, dropF_ch, dropF_cons, dropF_nil, cut, cond_true, cond_false, Int.natCast_zero, Int.natCast_add, Int.natCast_one]; done) | rfl | (simp only [go_sem, seval, reduceCtorEq, dropF_ch, dropF_cons, dropF_nil, cut, cond_true, cond_false, Int.natCast_zero, Int.natCast_add, Int.natCast_one]; rfl) | skip)
    · have d2 : ((k : Int) == 0) = false := beq_false_of_ne (by omega)
      have d5 : (k : Int) > 0 := by omega
      simp (disch := omega) only [go_sem, seval, reduceCtorEq, d1, g, dp, gp, d2, d5]
      (refine ti_call (l01In_d (P.getD k 0) 0 ((k : Int) - 1)) ?_ ?_ ?_; (focus (simp only [go_sem, seval, reduceCtorEq]; done)); (first | rfl | (focus (simp only [go_sem]; done))))
      by_cases hp : 0 ≤ P.getD k 0 ∧ P.getD k 0 ≤ (k : Int) - 1
      case neg =>
        have hp' := decide_eq_false hp
        have e := bad fun hh => hp (by have := hh.1.2 (by omega); omega)
        simp (disch := omega) only [go_sem, seval, reduceCtorEq, hp', e]
        (refine FnEnd.mk (Nat.le_of_ble_eq_true rfl) rfl (of_decide_eq_true rfl) ?_ ?_ <;> try simp only [go_sem, seval, reduceCtorEq])
      have hp' := decide_eq_true hp
      have hpr : PrOk P k := ⟨fun hh => absurd hh hk0, fun _ => by omega⟩
      simp (disch := omega) only [go_sem, seval, reduceCtorEq, hp']
      have hJ0 : ∀ i (hi : i < B[k].length), i < 0 → dimN N.ts B[k][i] ≠ 0 ∧ (0 < i → B[k].getD (i - 1) 0 < B[k][i]) := fun j _ hj => absurd hj (Nat.not_lt_zero j)
      refine wpN_lpI (B[k].length) [false, false, false, false, true, false, false, true, true, false, false, false, false, false, false, false, false, false, false, false, false, false, false, false, false, false, false, false, false, false, false, false, false, false, false, false, false, false, false, false, false, false, false, false, false, false, false, false, false, false, false, false, false, false, false, false, false, false, false, false, false, false, false, false, false, false, false, false, false, false, true, true, true, true, true, true, true, true, true, true, true, true, true, true, true, true, true, true, true, true, true, true, true, false, false, false, false, false, false, false, false, false, false, false, false, false, false, false, false, false, false, false, false, false, false, false, false, false, false, false, false, false, false, false, false, false, false, false, false, false, false, false, false, false, false, false, false, false, false, false, false, false, false, false, false, false, false, false, false, false, false, false, false, false, false, false, false, false] (fun j => ∀ i (hi : i < B[k].length), i < j → dimN N.ts B[k][i] ≠ 0 ∧ (0 < i → B[k].getD (i - 1) 0 < B[k][i])) (fun j => [(69, .d (.int j))]) (fun j => []) (fun _ => by (simp only [go_sem, seval, reduceCtorEq, dropF_ch, dropF_cons, dropF_nil, cut, cond_true, cond_false]); first | done | rfl) (fun _ => by (simp only [go_sem, seval, reduceCtorEq, cut]); first | done | rfl) (hJ0) (Nat.le_of_ble_eq_true rfl) (by first | (simp only [go_sem, seval, reduceCtorEq, dropF_ch, dropF_cons, dropF_nil, cut, cond_true, cond_false, Int.natCast_zero, Int.natCast_add, Int.natCast_one]; done) | rfl | (simp only [go_sem, seval, reduceCtorEq, dropF_ch, dropF_cons, dropF_nil, cut, cond_true, cond_false, Int.natCast_zero, Int.natCast_add, Int.natCast_one]; rfl)) (by first | (simp only [go_sem, seval, reduceCtorEq, dropF_ch, dropF_cons, dropF_nil, cut, cond_true, cond_false, Int.natCast_zero, Int.natCast_add, Int.natCast_one]; done) | rfl | (simp only [go_sem, seval, reduceCtorEq, dropF_ch, dropF_cons, dropF_nil, cut, cond_true, cond_false, Int.natCast_zero, Int.natCast_add, Int.natCast_one]; rfl)) fun j hj hij => ?_
      unfold L3_spec_DecompositionOk
      by_cases hltj : j < B[k].length
      · have f1 : (j : Int) < B[k].length := by omega
        have gj : B[k][j]? = some B[k][j] := List.getElem?_eq_getElem hltj
        have badj : ¬ (dimN N.ts B[k][j] ≠ 0 ∧ (0 < j → B[k].getD (j - 1) 0 < B[k][j])) → decB N B P = false := fun hb => bad fun hh => hb (hh.2 j hltj)
        simp (disch := omega) only [go_sem, seval, reduceCtorEq, f1, gj]
        (refine ti_call (l12Dim_d (ts := N.ts) (x := B[k][j]) h.l h.t hax) ?_ ?_ ?_; (focus (simp only [go_sem, seval, reduceCtorEq]; done)); (first | rfl | (focus (simp only [go_sem]; done))))
        by_cases hne : dimN N.ts B[k][j] = 0
        · have e := badj fun hb => hb.1 hne
          have f6 : (dimN N.ts B[k][j] == 0) = true := beq_iff_eq.2 hne
          simp (disch := omega) only [go_sem, seval, reduceCtorEq, f6, e]
          (refine FnEnd.mk (Nat.le_of_ble_eq_true rfl) rfl (of_decide_eq_true rfl) ?_ ?_ <;> try simp only [go_sem, seval, reduceCtorEq])
        have f6 : (dimN N.ts B[k][j] == 0) = false := beq_false_of_ne hne
        by_cases hj0 : j = 0
        · have f2 : ¬ (j : Int) > 0 := by omega
          have hI := bg_next hltj ⟨hne, fun hb => by omega⟩ hij
          simp (disch := omega) only [go_sem, seval, reduceCtorEq, f6, f2]
          (refine NextI.drop [false, false, false, false, true, false, false, true, true, false, false, false, false, false, false, false, false, false, false, false, false, false, false, false, false, false, false, false, false, false, false, false, false, false, false, false, false, false, false, false, false, false, false, false, false, false, false, false, false, false, false, false, false, false, false, false, false, false, false, false, false, false, false, false, false, false, false, false, false, false, true, true, true, true, true, true, true, true, true, true, true, true, true, true, true, true, true, true, true, true, true, true, true, false, false, false, false, false, false, false, false, false, false, false, false, false, false, false, false, false, false, false, false, false, false, false, false, false, false, false, false, false, false, false, false, false, false, false, false, false, false, false, false, false, false, false, false, false, false, false, false, false, false, false, false, false, false, false, false, false, false, false, false, false, false, false, false, false] (by omega) (hI) (Nat.le_of_ble_eq_true rfl) ?_ ?_ <;> first | (simp only [go_sem, seval, reduceCtorEq, dropF_ch, dropF_cons, dropF_nil, cut, cond_true, cond_false, Int.natCast_zero, Int.natCast_add, Int.natCast_one]; done) | rfl | (simp only [go_sem, seval, reduceCtorEq, dropF_ch, dropF_cons, dropF_nil, cut, cond_true, cond_false, Int.natCast_zero, Int.natCast_add, Int.natCast_one]; rfl) | skip)
        · have f2 : (j : Int) > 0 := by omega
          have f3 : (j : Int) - 1 = ((j - 1 : Nat) : Int) := by omega
          have f4 : ((j - 1 : Nat) : Int) < B[k].length := by omega
          have gj1 : B[k][j - 1]? = some (B[k].getD (j - 1) 0) := by rw [getD_of (show j - 1 < B[k].length by omega)]; exact List.getElem?_eq_getElem (by omega)
          by_cases hge : B[k].getD (j - 1) 0 ≥ B[k][j]
          · have e := badj fun hb => by have := hb.2 (by omega); omega
            simp (disch := omega) only [go_sem, seval, reduceCtorEq, f6, f2, f3, f4, gj1, hge, e]
            (refine FnEnd.mk (Nat.le_of_ble_eq_true rfl) rfl (of_decide_eq_true rfl) ?_ ?_ <;> try simp only [go_sem, seval, reduceCtorEq])
          · have hI := bg_next hltj ⟨hne, fun _ => by omega⟩ hij
            simp (disch := omega) only [go_sem, seval, reduceCtorEq, f6, f2, f3, f4, gj1, hge]
            (refine NextI.drop [false, false, false, false, true, false, false, true, true, false, false, false, false, false, false, false, false, false, false, false, false, false, false, false, false, false, false, false, false, false, false, false, false, false, false, false, false, false, false, false, false, false, false, false, false, false, false, false, false, false, false, false, false, false, false, false, false, false, false, false, false, false, false, false, false, false, false, false, false, false, true, true, true, true, true, true, true, true, true, true, true, true, true, true, true, true, true, true, true, true, true, true, true, false, false, false, false, false, false, false, false, false, false, false, false, false, false, false, false, false, false, false, false, false, false, false, false, false, false, false, false, false, false, false, false, false, false, false, false, false, false, false, false, false, false, false, false, false, false, false, false, false, false, false, false, false, false, false, false, false, false, false, false, false, false, false, false, false] (by omega) (hI) (Nat.le_of_ble_eq_true rfl) ?_ ?_ <;> first | (simp only [go_sem, seval, reduceCtorEq, dropF_ch, dropF_cons, dropF_nil, cut, cond_true, cond_false, Int.natCast_zero, Int.natCast_add, Int.natCast_one]; done) | rfl | (simp only [go_sem, seval, reduceCtorEq, dropF_ch, dropF_cons, dropF_nil, cut, cond_true, cond_false, Int.natCast_zero, Int.natCast_add, Int.natCast_one]; rfl) | skip)
      · have f1 : ¬ (j : Int) < B[k].length := by omega
        have hI := bags_next hlt ⟨hpr, fun i hi => hij i hi (by omega)⟩ hi
        simp (disch := omega) only [go_sem, seval, reduceCtorEq, f1]
        (refine NextI.drop [false, false, false, false, true, true, true, true, true, false, false, false, false, false, false, false, false, false, false, false, false, false, false, false, false, false, false, false, false, false, false, false, false, false, false, false, false, false, false, true, true, true, true, true, true, true, true, true, true, true, true, true, true, true, true, true, true, true, true, true, true, true, true, true, true, true, true, true, true, true, true, true, true, true, true, true, true, true, true, true, true, true, true, true, true, true, true, true, true, true, true, true, true, true, false, false, false, false, false, false, false, false, false, false, false, false, false, false, false, false, false, false, false, false, false, false, false, false, false, false, false, false, false, false, false, false, false, false, false, false, false, false, false, false, false, false, false, false, false, false, false, false, false, false, false, false, false, false, false, false, false, false, false, false, false, false, false, false] (by omega) (hI) (Nat.le_of_ble_eq_true rfl) ?_ ?_ <;> first | (simp only [go_sem, seval, reduceCtorEq, dropF_ch, dropF_cons, dropF_nil, cut, cond_true, cond_false, Int.natCast_zero, Int.natCast_add, Int.natCast_one]; done) | rfl | (simp only [go_sem, seval, reduceCtorEq, dropF_ch, dropF_cons, dropF_nil, cut, cond_true, cond_false, Int.natCast_zero, Int.natCast_add, Int.natCast_one]; rfl) | skip)
  have d1 : ¬ (k : Int) < B.length := by omega
  have hbk : BagsOk N.ts B P := ⟨by omega, b3, fun i hi' => hi i hi' (by omega)⟩
  simp (disch := omega) only [go_sem, seval, reduceCtorEq, d1]
  obtain rfl : k = B.length := by omega
  clear d1 hlt hi
  have hI0 : ∀ t ∈ N.ts.take 0, Home B t.labels := fun t ht => by simp at ht
  refine wpN_lpI (N.ts.length) [false, false, false, false, true, false, false, false, false, false, true, false, false, false, false, false, false, false, false, false, false, false, false, false, false, false, false, false, false, false, false, false, false, false, false, false, false, false, false, false, false, false, false, false, false, false, false, false, false, false, false, false, false, false, false, false, false, false, false, false, false, false, false, false, false, false, false, false, false, false, false, false, false, false, false, false, false, false, false, false, false, false, false, false, false, false, false, false, false, false, false, false, false, false, false, false, false, false, true, true, true, true, true, true, true, true, true, false, false, false, false, false, false, false, false, false, false, false, false, false, false, false, false, false, false, false, false, false, false, false, false, false, false, false, false, false, false, false, false, false, false, false, false, false, false, false, false, false, false, false, false, false, false, false, false, false, false, false] (fun k => ∀ t ∈ N.ts.take k, Home B t.labels) (fun k => [(97, .d (.int k))]) (fun k => []) (fun _ => by (simp only [go_sem, seval, reduceCtorEq, dropF_ch, dropF_cons, dropF_nil, cut, cond_true, cond_false]); first | done | rfl) (fun _ => by (simp only [go_sem, seval, reduceCtorEq, cut]); first | done | rfl) (hI0) (Nat.le_of_ble_eq_true rfl) (by first | (simp only [go_sem, seval, reduceCtorEq, dropF_ch, dropF_cons, dropF_nil, cut, cond_true, cond_false, Int.natCast_zero, Int.natCast_add, Int.natCast_one]; done) | rfl | (simp only [go_sem, seval, reduceCtorEq, dropF_ch, dropF_cons, dropF_nil, cut, cond_true, cond_false, Int.natCast_zero, Int.natCast_add, Int.natCast_one]; rfl)) (by first | (simp only [go_sem, seval, reduceCtorEq, dropF_ch, dropF_cons, dropF_nil, cut, cond_true, cond_false, Int.natCast_zero, Int.natCast_add, Int.natCast_one]; done) | rfl | (simp only [go_sem, seval, reduceCtorEq, dropF_ch, dropF_cons, dropF_nil, cut, cond_true, cond_false, Int.natCast_zero, Int.natCast_add, Int.natCast_one]; rfl)) fun k hk hi => ?_
  unfold L2_spec_DecompositionOk
  by_cases hlt : k < N.ts.length
  · have d1 : (k : Int) < N.ts.length := by omega
    have g3 := tcs_cut (List.getElem?_eq_getElem hlt)
    have hst := h.t N.ts[k] (List.getElem_mem hlt)
    simp (disch := omega) only [go_sem, seval, reduceCtorEq, d1, g3]
    (repeat (refine And.intro (by omega) ?_))
    (refine ti_call (l22Bag_d (B := B) (P := P) (l := N.ts[k].labels) hD hst.l.len) ?_ ?_ ?_; (focus (simp only [go_sem, seval, reduceCtorEq]; done)); (first | rfl | (focus (simp only [go_sem]; done))))
    by_cases hm : homeI B N.ts[k].labels < 0
    · have e : decB N B P = false := decB_no fun hh => homeI_no hm (hh.2.2.2.1 _ (List.getElem_mem hlt))
      simp (disch := omega) only [go_sem, seval, reduceCtorEq, hm, e]
      (refine FnEnd.mk (Nat.le_of_ble_eq_true rfl) rfl (of_decide_eq_true rfl) ?_ ?_ <;> try simp only [go_sem, seval, reduceCtorEq])
    · have hI := homes_next hlt (homeI_yes hm) hi
      simp (disch := omega) only [go_sem, seval, reduceCtorEq, hm]
      (refine NextI.drop [false, false, false, false, true, false, false, false, false, false, true, false, false, false, false, false, false, false, false, false, false, false, false, false, false, false, false, false, false, false, false, false, false, false, false, false, false, false, false, false, false, false, false, false, false, false, false, false, false, false, false, false, false, false, false, false, false, false, false, false, false, false, false, false, false, false, false, false, false, false, false, false, false, false, false, false, false, false, false, false, false, false, false, false, false, false, false, false, false, false, false, false, false, false, false, false, false, false, true, true, true, true, true, true, true, true, true, false, false, false, false, false, false, false, false, false, false, false, false, false, false, false, false, false, false, false, false, false, false, false, false, false, false, false, false, false, false, false, false, false, false, false, false, false, false, false, false, false, false, false, false, false, false, false, false, false, false, false] (by omega) (hI) (Nat.le_of_ble_eq_true rfl) ?_ ?_ <;> first | (simp only [go_sem, seval, reduceCtorEq, dropF_ch, dropF_cons, dropF_nil, cut, cond_true, cond_false, Int.natCast_zero, Int.natCast_add, Int.natCast_one]; done) | rfl | (simp only [go_sem, seval, reduceCtorEq, dropF_ch, dropF_cons, dropF_nil, cut, cond_true, cond_false, Int.natCast_zero, Int.natCast_add, Int.natCast_one]; rfl) | skip)
  have d1 : ¬ (k : Int) < N.ts.length := by omega
  rw [List.take_of_length_le (by omega)] at hi
  simp (disch := omega) only [go_sem, seval, reduceCtorEq, d1]
  (refine ti_call (l12Labels_f h.l h.t hax) ?_ ?_ ?_; (focus (simp only [go_sem, seval, reduceCtorEq]; done)); (first | rfl | (focus (simp only [go_sem]; done))))
  simp (disch := omega) only [go_sem, seval, reduceCtorEq]
  have hT0 : ∀ x ∈ (pickTo (labP N.ts) 100).take 0, topsTo B P x B.length ≤ 1 := fun t ht => by simp at ht
  obtain rfl : k = N.ts.length := by omega
  clear d1 hlt
  have hhome := hi
  clear hi
  refine wpN_lpI ((pickTo (labP N.ts) 100).length) [false, false, false, false, true, false, false, false, false, false, false, false, true, true, true, true, false, false, false, false, false, false, false, false, false, false, false, false, false, false, false, false, false, false, false, false, false, false, false, false, false, false, false, false, false, false, false, false, false, false, false, false, false, false, false, false, false, false, false, false, false, false, false, false, false, false, false, false, false, false, false, false, false, false, false, false, false, false, false, false, false, false, false, false, false, false, false, false, false, false, false, false, false, false, false, false, false, false, false, false, false, false, false, false, false, false, false, false, false, false, false, false, true, true, true, true, true, true, true, true, true, true, true, true, true, true, true, true, true, true, true, true, true, true, true, true, true, true, true, true, true, true, true, true, true, true, true, true, true, true, true, false, false, false, false, false, false, false] (fun k => ∀ x ∈ (pickTo (labP N.ts) 100).take k, topsTo B P x B.length ≤ 1) (fun k => [(111, .d (.int k))]) (fun k => []) (fun _ => by (simp only [go_sem, seval, reduceCtorEq, dropF_ch, dropF_cons, dropF_nil, cut, cond_true, cond_false]); first | done | rfl) (fun _ => by (simp only [go_sem, seval, reduceCtorEq, cut]); first | done | rfl) (hT0) (Nat.le_of_ble_eq_true rfl) (by first | (simp only [go_sem, seval, reduceCtorEq, dropF_ch, dropF_cons, dropF_nil, cut, cond_true, cond_false, Int.natCast_zero, Int.natCast_add, Int.natCast_one]; done) | rfl | (simp only [go_sem, seval, reduceCtorEq, dropF_ch, dropF_cons, dropF_nil, cut, cond_true, cond_false, Int.natCast_zero, Int.natCast_add, Int.natCast_one]; rfl)) (by first | (simp only [go_sem, seval, reduceCtorEq, dropF_ch, dropF_cons, dropF_nil, cut, cond_true, cond_false, Int.natCast_zero, Int.natCast_add, Int.natCast_one]; done) | rfl | (simp only [go_sem, seval, reduceCtorEq, dropF_ch, dropF_cons, dropF_nil, cut, cond_true, cond_false, Int.natCast_zero, Int.natCast_add, Int.natCast_one]; rfl)) fun k hk hi => ?_
  unfold L1_spec_DecompositionOk
  by_cases hlt : k < (pickTo (labP N.ts) 100).length
  · have d1 : (k : Int) < (pickTo (labP N.ts) 100).length := by omega
    have g : (pickTo (labP N.ts) 100)[k]? = some (pickTo (labP N.ts) 100)[k] := List.getElem?_eq_getElem hlt
    simp (disch := omega) only [go_sem, seval, reduceCtorEq, d1, g]
    generalize hxe : (pickTo (labP N.ts) 100)[k] = x at *
    have hit := hi
    refine wpN_lp (B.length) [false, false, false, false, false, false, false, false, false, false, false, false, false, false, true, true, false, false, false, false, false, false, false, false, false, false, false, false, false, false, false, false, false, false, false, false, false, false, false, false, false, false, false, false, false, false, false, false, false, false, false, false, false, false, false, false, false, false, false, false, false, false, false, false, false, false, false, false, false, false, false, false, false, false, false, false, false, false, false, false, false, false, false, false, false, false, false, false, false, false, false, false, false, false, false, false, false, false, false, false, false, false, false, false, false, false, false, false, false, false, false, false, false, false, false, false, false, false, false, true, true, true, true, true, true, true, true, true, true, true, true, true, true, true, true, true, true, true, true, true, true, true, true, true, true, true, true, true, false, false, false, false, false, false, false, false, false, false] (fun i => [(13, .d (.int (topsTo B P x i))), (118, .d (.int i))]) (fun i => []) (fun _ => by (simp only [go_sem, seval, reduceCtorEq, dropF_ch, dropF_cons, dropF_nil, cut, cond_true, cond_false]); first | done | rfl) (fun _ => by (simp only [go_sem, seval, reduceCtorEq, cut]); first | done | rfl) (Nat.le_of_ble_eq_true rfl) (by first | (simp only [go_sem, seval, reduceCtorEq, dropF_ch, dropF_cons, dropF_nil, cut, cond_true, cond_false, Int.natCast_zero, Int.natCast_add, Int.natCast_one, topsTo, Int.natCast_zero]; done) | rfl | (simp only [go_sem, seval, reduceCtorEq, dropF_ch, dropF_cons, dropF_nil, cut, cond_true, cond_false, Int.natCast_zero, Int.natCast_add, Int.natCast_one, topsTo, Int.natCast_zero]; rfl)) (by first | (simp only [go_sem, seval, reduceCtorEq, dropF_ch, dropF_cons, dropF_nil, cut, cond_true, cond_false, Int.natCast_zero, Int.natCast_add, Int.natCast_one, topsTo, Int.natCast_zero]; done) | rfl | (simp only [go_sem, seval, reduceCtorEq, dropF_ch, dropF_cons, dropF_nil, cut, cond_true, cond_false, Int.natCast_zero, Int.natCast_add, Int.natCast_one, topsTo, Int.natCast_zero]; rfl)) fun i hi => ?_
    unfold L0_spec_DecompositionOk
    have htl := topsTo_le (B := B) (P := P) (x := x) i
    by_cases hlti : i < B.length
    · have f1 : (i : Int) < B.length := by omega
      have gi : B[i]? = some B[i] := List.getElem?_eq_getElem hlti
      have ei : B.getD i [] = B[i] := getL_of hlti
      have hsi := (hD.e B[i] (List.getElem_mem hlti)).len
      simp (disch := omega) only [go_sem, seval, reduceCtorEq, f1, gi]
      (refine gi_call (l05Find_d (xs := B[i]) (x := x) (by omega)) ?_ ?_ ?_; (focus (simp only [go_sem, seval, reduceCtorEq]; done)); (first | rfl | (focus (simp only [go_sem]; done))))
      by_cases hh : x ∈ B[i]
      case neg =>
        have hh' := has_false.2 hh
        have f0 : ¬ place B[i] x ≥ 0 := by have := place_neg hh; omega
        have ht : topB B P x i = false := by rw [topB, ei, hh']; rfl
        simp (disch := omega) only [go_sem, seval, reduceCtorEq, f0]
        (refine Next.drop [false, false, false, false, false, false, false, false, false, false, false, false, false, false, true, true, false, false, false, false, false, false, false, false, false, false, false, false, false, false, false, false, false, false, false, false, false, false, false, false, false, false, false, false, false, false, false, false, false, false, false, false, false, false, false, false, false, false, false, false, false, false, false, false, false, false, false, false, false, false, false, false, false, false, false, false, false, false, false, false, false, false, false, false, false, false, false, false, false, false, false, false, false, false, false, false, false, false, false, false, false, false, false, false, false, false, false, false, false, false, false, false, false, false, false, false, false, false, false, true, true, true, true, true, true, true, true, true, true, true, true, true, true, true, true, true, true, true, true, true, true, true, true, true, true, true, true, true, false, false, false, false, false, false, false, false, false, false] (by omega) (Nat.le_of_ble_eq_true rfl) ?_ ?_ <;> first | (simp only [go_sem, seval, reduceCtorEq, dropF_ch, dropF_cons, dropF_nil, cut, cond_true, cond_false, Int.natCast_zero, Int.natCast_add, Int.natCast_one, topsTo_no ht]; done) | rfl | (simp only [go_sem, seval, reduceCtorEq, dropF_ch, dropF_cons, dropF_nil, cut, cond_true, cond_false, Int.natCast_zero, Int.natCast_add, Int.natCast_one, topsTo_no ht]; rfl) | skip)
      have hh' := has_true.2 hh
      have f0 : place B[i] x ≥ 0 := by have := place_nn hh; omega
      by_cases hi0 : i = 0
      · have f2 : ((i : Int) == 0) = true := beq_iff_eq.2 (by omega)
        have ht : topB B P x i = true := by rw [topB, ei, hh', decide_eq_true hi0]; rfl
        simp (disch := omega) only [go_sem, seval, reduceCtorEq, f0, f2]
        (refine Next.drop [false, false, false, false, false, false, false, false, false, false, false, false, false, false, true, true, false, false, false, false, false, false, false, false, false, false, false, false, false, false, false, false, false, false, false, false, false, false, false, false, false, false, false, false, false, false, false, false, false, false, false, false, false, false, false, false, false, false, false, false, false, false, false, false, false, false, false, false, false, false, false, false, false, false, false, false, false, false, false, false, false, false, false, false, false, false, false, false, false, false, false, false, false, false, false, false, false, false, false, false, false, false, false, false, false, false, false, false, false, false, false, false, false, false, false, false, false, false, false, true, true, true, true, true, true, true, true, true, true, true, true, true, true, true, true, true, true, true, true, true, true, true, true, true, true, true, true, true, false, false, false, false, false, false, false, false, false, false] (by omega) (Nat.le_of_ble_eq_true rfl) ?_ ?_ <;> first | (simp only [go_sem, seval, reduceCtorEq, dropF_ch, dropF_cons, dropF_nil, cut, cond_true, cond_false, Int.natCast_zero, Int.natCast_add, Int.natCast_one, topsTo_yes ht]; done) | rfl | (simp only [go_sem, seval, reduceCtorEq, dropF_ch, dropF_cons, dropF_nil, cut, cond_true, cond_false, Int.natCast_zero, Int.natCast_add, Int.natCast_one, topsTo_yes ht]; rfl) | skip)
      · have f2 : ((i : Int) == 0) = false := beq_false_of_ne (by omega)
        have hp := ((hbk.2.2 i hlti).1).2 (by omega)
        have hpn : ((P.getD i 0).toNat : Int) = P.getD i 0 := by omega
        have f3 : (i : Int) < P.length := by omega
        have gp : P[i]? = some ((P.getD i 0).toNat : Int) := by rw [hpn, getD_of (show i < P.length by omega)]; exact List.getElem?_eq_getElem (by omega)
        have hpl2 : (P.getD i 0).toNat < B.length := by omega
        have ht0 : topB B P x i = !has (B.getD (P.getD i 0).toNat []) x := by rw [topB, ei, hh', decide_eq_false hi0]; rfl
        generalize (P.getD i 0).toNat = p at *
        have f4 : (p : Int) < B.length := by omega
        have gb : B[p]? = some B[p] := List.getElem?_eq_getElem hpl2
        have eb : B.getD p [] = B[p] := getL_of hpl2
        have hsp := (hD.e B[p] (List.getElem_mem hpl2)).len
        rw [eb] at ht0
        simp (disch := omega) only [go_sem, seval, reduceCtorEq, f0, f2, f3, gp, f4, gb]
        (refine ti_call (l05Find_d (xs := B[p]) (x := x) (by omega)) ?_ ?_ ?_; (focus (simp only [go_sem, seval, reduceCtorEq]; done)); (first | rfl | (focus (simp only [go_sem]; done))))
        by_cases hq : x ∈ B[p]
        · have hq' := has_true.2 hq
          have f5 := place_nn hq
          have ht : topB B P x i = false := by rw [ht0, hq']; rfl
          simp (disch := omega) only [go_sem, seval, reduceCtorEq, f5]
          (refine Next.drop [false, false, false, false, false, false, false, false, false, false, false, false, false, false, true, true, false, false, false, false, false, false, false, false, false, false, false, false, false, false, false, false, false, false, false, false, false, false, false, false, false, false, false, false, false, false, false, false, false, false, false, false, false, false, false, false, false, false, false, false, false, false, false, false, false, false, false, false, false, false, false, false, false, false, false, false, false, false, false, false, false, false, false, false, false, false, false, false, false, false, false, false, false, false, false, false, false, false, false, false, false, false, false, false, false, false, false, false, false, false, false, false, false, false, false, false, false, false, false, true, true, true, true, true, true, true, true, true, true, true, true, true, true, true, true, true, true, true, true, true, true, true, true, true, true, true, true, true, false, false, false, false, false, false, false, false, false, false] (by omega) (Nat.le_of_ble_eq_true rfl) ?_ ?_ <;> first | (simp only [go_sem, seval, reduceCtorEq, dropF_ch, dropF_cons, dropF_nil, cut, cond_true, cond_false, Int.natCast_zero, Int.natCast_add, Int.natCast_one, topsTo_no ht]; done) | rfl | (simp only [go_sem, seval, reduceCtorEq, dropF_ch, dropF_cons, dropF_nil, cut, cond_true, cond_false, Int.natCast_zero, Int.natCast_add, Int.natCast_one, topsTo_no ht]; rfl) | skip)
        · have hq' := has_false.2 hq
          have f5 := place_neg hq
          have ht : topB B P x i = true := by rw [ht0, hq']; rfl
          simp (disch := omega) only [go_sem, seval, reduceCtorEq, f5]
          (refine Next.drop [false, false, false, false, false, false, false, false, false, false, false, false, false, false, true, true, false, false, false, false, false, false, false, false, false, false, false, false, false, false, false, false, false, false, false, false, false, false, false, false, false, false, false, false, false, false, false, false, false, false, false, false, false, false, false, false, false, false, false, false, false, false, false, false, false, false, false, false, false, false, false, false, false, false, false, false, false, false, false, false, false, false, false, false, false, false, false, false, false, false, false, false, false, false, false, false, false, false, false, false, false, false, false, false, false, false, false, false, false, false, false, false, false, false, false, false, false, false, false, true, true, true, true, true, true, true, true, true, true, true, true, true, true, true, true, true, true, true, true, true, true, true, true, true, true, true, true, true, false, false, false, false, false, false, false, false, false, false] (by omega) (Nat.le_of_ble_eq_true rfl) ?_ ?_ <;> first | (simp only [go_sem, seval, reduceCtorEq, dropF_ch, dropF_cons, dropF_nil, cut, cond_true, cond_false, Int.natCast_zero, Int.natCast_add, Int.natCast_one, topsTo_yes ht]; done) | rfl | (simp only [go_sem, seval, reduceCtorEq, dropF_ch, dropF_cons, dropF_nil, cut, cond_true, cond_false, Int.natCast_zero, Int.natCast_add, Int.natCast_one, topsTo_yes ht]; rfl) | skip)
    · have f1 : ¬ (i : Int) < B.length := by omega
      obtain rfl : i = B.length := by omega
      by_cases h1 : topsTo B P x B.length ≤ 1
      · have f2 : ¬ (topsTo B P x B.length : Int) > 1 := by omega
        have hI := tops_next (n := B.length) hlt (by rw [hxe]; exact h1) hit
        simp (disch := omega) only [go_sem, seval, reduceCtorEq, f1, f2]
        (refine NextI.drop [false, false, false, false, true, false, false, false, false, false, false, false, true, true, true, true, false, false, false, false, false, false, false, false, false, false, false, false, false, false, false, false, false, false, false, false, false, false, false, false, false, false, false, false, false, false, false, false, false, false, false, false, false, false, false, false, false, false, false, false, false, false, false, false, false, false, false, false, false, false, false, false, false, false, false, false, false, false, false, false, false, false, false, false, false, false, false, false, false, false, false, false, false, false, false, false, false, false, false, false, false, false, false, false, false, false, false, false, false, false, false, false, true, true, true, true, true, true, true, true, true, true, true, true, true, true, true, true, true, true, true, true, true, true, true, true, true, true, true, true, true, true, true, true, true, true, true, true, true, true, true, false, false, false, false, false, false, false] (by omega) (hI) (Nat.le_of_ble_eq_true rfl) ?_ ?_ <;> first | (simp only [go_sem, seval, reduceCtorEq, dropF_ch, dropF_cons, dropF_nil, cut, cond_true, cond_false, Int.natCast_zero, Int.natCast_add, Int.natCast_one]; done) | rfl | (simp only [go_sem, seval, reduceCtorEq, dropF_ch, dropF_cons, dropF_nil, cut, cond_true, cond_false, Int.natCast_zero, Int.natCast_add, Int.natCast_one]; rfl) | skip)
      · have f2 : (topsTo B P x B.length : Int) > 1 := by omega
        have e : decB N B P = false := decB_no fun hh => h1 (by rw [← hxe]; exact hh.2.2.2.2 _ (List.getElem_mem hlt))
        simp (disch := omega) only [go_sem, seval, reduceCtorEq, f1, f2, e]
        (refine FnEnd.mk (Nat.le_of_ble_eq_true rfl) rfl (of_decide_eq_true rfl) ?_ ?_ <;> try simp only [go_sem, seval, reduceCtorEq])
  · have d1 : ¬ (k : Int) < (pickTo (labP N.ts) 100).length := by omega
    rw [List.take_of_length_le (by omega)] at hi
    have g1 : B[0]? = some B[0] := List.getElem?_eq_getElem (by omega)
    have e0 : B.getD 0 [] = B[0] := getL_of (by omega)
    have i0 : (0 : Int) < B.length := by omega
    have hs0 := (hD.e B[0] (List.getElem_mem (by omega))).len
    simp (disch := omega) only [go_sem, seval, reduceCtorEq, d1, g1, i0]
    (refine ti_call (l22Within_d (a := N.os) (b := B[0]) hol hs0) ?_ ?_ ?_; (focus (simp only [go_sem, seval, reduceCtorEq]; done)); (first | rfl | (focus (simp only [go_sem]; done))))
    have e : decB N B P = allL N.os B[0] := by
      cases hal : allL N.os B[0]
      · exact decB_no fun hh => by have := hh.2.2.1; rw [e0, hal] at this; cases this
      · exact decB_yes ⟨hok, hbk, by rw [e0]; exact hal, hhome, hi⟩
    simp (disch := omega) only [go_sem, seval, reduceCtorEq, e]
    (refine FnEnd.mk (Nat.le_of_ble_eq_true rfl) rfl (of_decide_eq_true rfl) ?_ ?_ <;> try simp only [go_sem, seval, reduceCtorEq])
end Go.Proofs.Ytcgnehacihjnkaa
