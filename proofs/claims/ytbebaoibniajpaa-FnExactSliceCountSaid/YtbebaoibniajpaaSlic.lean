/-
  Contracts: how many slices a network has. No condition.
-/
import Derived.Test.YtbebaoibniajpaaCodeB
import Derived.Test.YtbebaoibniajpaaNetF
namespace Go.Proofs.Ytbebaoibniajpaa
open Go.RowKit Go.Lift Plain
set_option linter.unusedSimpArgs false
set_option linter.unusedVariables false
set_option maxRecDepth 100000

theorem prodI_pow : ∀ {ds : List Int}, (∀ d ∈ ds, 1 ≤ d ∧ d ≤ 8) → 1 ≤ prodI ds ∧ prodI ds ≤ 8 ^ ds.length
  | [], _ => by simp [prodI]
  | d :: ds, h => by
    have ih := prodI_pow (ds := ds) fun x hx => h x (List.mem_cons_of_mem _ hx)
    have hd := h d (List.mem_cons_self ..)
    have e : prodI (d :: ds) = d * prodI ds := prodI_cons d ds
    have h1 : d * 1 ≤ d * prodI ds := Int.mul_le_mul_of_nonneg_left ih.1 (by omega)
    have h2 : d * prodI ds ≤ 8 * prodI ds := Int.mul_le_mul_of_nonneg_right hd.2 (by omega)
    rw [e, List.length_cons, Int.pow_succ]
    generalize d * prodI ds = q at *
    exact ⟨by omega, by omega⟩
noncomputable def cntS (N : Net) (L : List Int) : Int := if netOk N = true ∧ L.length ≤ 4 ∧ distB (closedL N) L = true then prodI (L.map (dimN N.ts)) else -1
theorem cntS_no {N : Net} {L : List Int} (h : ¬ (netOk N = true ∧ L.length ≤ 4 ∧ distB (closedL N) L = true)) : cntS N L = -1 := by rw [cntS, if_neg h]
theorem closed_dim {N : Net} (hok : netOk N = true) {x : Int} (hx : x ∈ closedL N) : (0 ≤ x ∧ x ≤ 99) ∧ 1 ≤ dimN N.ts x ∧ dimN N.ts x ≤ 8 := by
  have h1 := (wol_mem.1 hx).1
  rw [labelsL, if_pos hok] at h1
  obtain ⟨i, hi, hp, rfl⟩ := pickTo_mem h1
  have hb := dimN_bd (netOk_ax hok) i
  refine ⟨by omega, ?_⟩
  unfold labP at hp
  simp only [bne_iff_ne, ne_eq] at hp
  omega
theorem iSliceCount_d {N : Net} {L : List Int} (h : NSz 1048576 N) (hL : Sz 1048576 L) : Does Try.prog 52 [netA N, .d (ints L)] [] (.d (.int (cntS N L))) [] := by
  have hnl := h.l
  have hcl := (closedL_sz N).len
  (refine spec_of (by kernel_rfl) Try.func52 k_impl_SliceCount (fnOk (Nat.le_of_ble_eq_true rfl) ?_); unfold C_impl_SliceCount)
  (simp only [Nat.reduceSub, List.length_cons, List.length_nil, Nat.reduceAdd, ch_init1, ch_init2, ch_init3, ch_init4, ch_init5, ch_init6, ch_init7, ch_init8]; try simp only [ch_rep]); (simp only [go_sem, seval, reduceCtorEq, List.replicate])
  (refine ti_call (iNetworkOk_d h) ?_ ?_ ?_; (focus (simp only [go_sem, seval, reduceCtorEq]; done)); (first | rfl | (focus (simp only [go_sem]; done))))
  cases hok : netOk N
  · have e := cntS_no (N := N) (L := L) (by simp [hok])
    simp only [go_sem, seval, reduceCtorEq, hok, e]
    (refine FnEnd.mk (Nat.le_of_ble_eq_true rfl) rfl (of_decide_eq_true rfl) ?_ ?_ <;> try simp only [go_sem, seval, reduceCtorEq])
  simp only [go_sem, seval, reduceCtorEq, hok]
  by_cases b1 : (L.length : Int) > 4
  · have e := cntS_no (N := N) (L := L) (by omega)
    simp only [go_sem, seval, reduceCtorEq, b1, e]
    (refine FnEnd.mk (Nat.le_of_ble_eq_true rfl) rfl (of_decide_eq_true rfl) ?_ ?_ <;> try simp only [go_sem, seval, reduceCtorEq])
  have hax := netOk_ax hok
  simp only [go_sem, seval, reduceCtorEq, b1]
  (refine ti_call (iClosedLabels_d h) ?_ ?_ ?_; (focus (simp only [go_sem, seval, reduceCtorEq]; done)); (first | rfl | (focus (simp only [go_sem]; done))))
  simp only [go_sem, seval, reduceCtorEq]
  refine wpN_lpI (L.length) [false, false, false, false, true, false, true, true, false, false, false, false, false, false, false, false, false, false, false, false, false, false, false, false, true, true, true, true, true, true, true, true, true, true, true, true, true, true, true, true, false, false, false, false, false, false, false, false, false, false, false, false, false, false] (fun k => ∀ j (hj : j < L.length), j < k → L[j] ∈ closedL N ∧ L[j] ∉ L.take j) (fun k => [(23, .d (.int k))]) (fun k => []) (fun _ => by (simp only [go_sem, seval, reduceCtorEq, dropF_ch, dropF_cons, dropF_nil, cut, cond_true, cond_false]); first | done | rfl) (fun _ => by (simp only [go_sem, seval, reduceCtorEq, cut]); first | done | rfl) (fun j _ hj => absurd hj (Nat.not_lt_zero j)) (Nat.le_of_ble_eq_true rfl) (by first | (simp only [go_sem, seval, reduceCtorEq, dropF_ch, dropF_cons, dropF_nil, cut, cond_true, cond_false, Int.natCast_zero, Int.natCast_add, Int.natCast_one]; done) | rfl | (simp only [go_sem, seval, reduceCtorEq, dropF_ch, dropF_cons, dropF_nil, cut, cond_true, cond_false, Int.natCast_zero, Int.natCast_add, Int.natCast_one]; rfl)) (by first | (simp only [go_sem, seval, reduceCtorEq, dropF_ch, dropF_cons, dropF_nil, cut, cond_true, cond_false, Int.natCast_zero, Int.natCast_add, Int.natCast_one]; done) | rfl | (simp only [go_sem, seval, reduceCtorEq, dropF_ch, dropF_cons, dropF_nil, cut, cond_true, cond_false, Int.natCast_zero, Int.natCast_add, Int.natCast_one]; rfl)) fun k hk hi => ?_
  unfold L0_impl_SliceCount
  by_cases hlt : k < L.length
  · have d1 : (k : Int) < L.length := by omega
    have g : L[k]? = some L[k] := List.getElem?_eq_getElem hlt
    have hbad : ¬ (L[k] ∈ closedL N ∧ L[k] ∉ L.take k) → cntS N L = -1 := fun hb => cntS_no fun e => by rw [distB_no k hlt hb] at e; simp at e
    have htk : (L.take k).length = k := by rw [List.length_take]; omega
    simp (disch := omega) only [go_sem, seval, reduceCtorEq, d1, g]
    (refine ti_call (hasInt_d (xs := closedL N) (x := L[k]) (by omega)) ?_ ?_ ?_; (focus (simp only [go_sem, seval, reduceCtorEq]; done)); (first | rfl | (focus (simp only [go_sem]; done))))
    cases hh : has (closedL N) L[k]
    · have e := hbad fun x => has_false.1 hh x.1
      simp (disch := omega) only [go_sem, seval, reduceCtorEq, hh, e]
      (refine FnEnd.mk (Nat.le_of_ble_eq_true rfl) rfl (of_decide_eq_true rfl) ?_ ?_ <;> try simp only [go_sem, seval, reduceCtorEq])
    simp (disch := omega) only [go_sem, seval, reduceCtorEq, hh]
    (repeat (refine And.intro (by omega) ?_))
    (refine ti_call (hasInt_d (xs := L.take k) (x := L[k]) (by omega)) ?_ ?_ ?_; (focus (simp only [go_sem, seval, reduceCtorEq, htk, Int.sub_zero]; done)); (first | rfl | (focus (simp only [go_sem]; done))))
    cases hh2 : has (L.take k) L[k]
    · have hI : ∀ j (hj : j < L.length), j < k + 1 → L[j] ∈ closedL N ∧ L[j] ∉ L.take j := fun j hj hjk => by
        by_cases e : j = k
        · subst e
          exact ⟨has_true.1 hh, has_false.1 hh2⟩
        · exact hi j hj (by omega)
      simp (disch := omega) only [go_sem, seval, reduceCtorEq, hh2]
      (refine NextI.drop [false, false, false, false, true, false, true, true, false, false, false, false, false, false, false, false, false, false, false, false, false, false, false, false, true, true, true, true, true, true, true, true, true, true, true, true, true, true, true, true, false, false, false, false, false, false, false, false, false, false, false, false, false, false] (by omega) (hI) (Nat.le_of_ble_eq_true rfl) ?_ ?_ <;> first | (simp only [go_sem, seval, reduceCtorEq, dropF_ch, dropF_cons, dropF_nil, cut, cond_true, cond_false, Int.natCast_zero, Int.natCast_add, Int.natCast_one]; done) | rfl | (simp only [go_sem, seval, reduceCtorEq, dropF_ch, dropF_cons, dropF_nil, cut, cond_true, cond_false, Int.natCast_zero, Int.natCast_add, Int.natCast_one]; rfl) | skip)
    · have e := hbad fun x => x.2 (has_true.1 hh2)
      simp (disch := omega) only [go_sem, seval, reduceCtorEq, hh2, e]
      (refine FnEnd.mk (Nat.le_of_ble_eq_true rfl) rfl (of_decide_eq_true rfl) ?_ ?_ <;> try simp only [go_sem, seval, reduceCtorEq])
  have d1 : ¬ (k : Int) < L.length := by omega
  obtain rfl : k = L.length := by omega
  have hdi : distB (closedL N) L = true := decide_eq_true fun k hk => hi k hk hk
  have hmem : ∀ x ∈ L, x ∈ closedL N := (distB_nodup hdi).2
  have e : cntS N L = prodI (L.map (dimN N.ts)) := by rw [cntS, if_pos ⟨hok, by omega, hdi⟩]
  have hdr : List.drop 100 (repI 100 0) = [] := List.drop_of_length_le (by rw [repI_len]; exact Nat.le_refl _)
  have hRl := dimsR_len N.ts
  have hok2 := (dimsR_ok hax).1.2 (netOk_iff.1 hok).2.2.2.1
  have hat := (dimsR_ok hax).2 hok2
  have hmp : L.map (atT (dimsR N.ts).1) = L.map (dimN N.ts) := List.map_congr_left fun x hx => hat x (closed_dim hok (hmem x hx)).1
  have hds : ∀ d ∈ L.map (dimN N.ts), 1 ≤ d ∧ d ≤ 8 := fun d hd => by
    obtain ⟨x, hx, rfl⟩ := List.mem_map.1 hd
    exact (closed_dim hok (hmem x hx)).2
  have hpp := prodI_pow hds
  have hml : (L.map (dimN N.ts)).length = L.length := by simp
  have hpw : (8 : Int) ^ (L.map (dimN N.ts)).length ≤ 4096 := by
    rw [hml]
    have : L.length = 0 ∨ L.length = 1 ∨ L.length = 2 ∨ L.length = 3 ∨ L.length = 4 := by omega
    rcases this with q | q | q | q | q <;> rw [q] <;> decide
  clear hi
  simp (disch := omega) only [go_sem, seval, reduceCtorEq, d1]
  (refine ti_call (dimsOf_d (ts := N.ts) h.l h.t hax) ?_ ?_ ?_; (focus (simp only [go_sem, seval, reduceCtorEq]; done)); (first | rfl | (focus (simp only [go_sem]; done))))
  simp (disch := omega) only [go_sem, seval, reduceCtorEq, hdr, hRl]
  have ht100 : (dimsR N.ts).1.take 100 = (dimsR N.ts).1 := List.take_of_length_le (by omega)
  have htL : (L.map (dimN N.ts)).take L.length = L.map (dimN N.ts) := List.take_of_length_le (by omega)
  (refine ti_call (axesOf_d (D := (dimsR N.ts).1) (L := L) hRl hL.len (fun x hx => (closed_dim hok (hmem x hx)).1)) ?_ ?_ ?_; (focus (simp only [go_sem, seval, reduceCtorEq, ht100]; done)); (first | rfl | (focus (simp only [go_sem]; done))))
  simp (disch := omega) only [go_sem, seval, reduceCtorEq, hmp]
  (refine ti_call (productOf_d (ds := L.map (dimN N.ts)) (by omega) (fun d hd => (hds d hd).1) (by omega)) ?_ ?_ ?_; (focus (simp only [go_sem, seval, reduceCtorEq, hml, htL]; done)); (first | rfl | (focus (simp only [go_sem]; done))))
  have c9 : ¬ prodI (L.map (dimN N.ts)) > 65536 := by omega
  simp (disch := omega) only [go_sem, seval, reduceCtorEq, c9, e]
  (refine FnEnd.mk (Nat.le_of_ble_eq_true rfl) rfl (of_decide_eq_true rfl) ?_ ?_ <;> try simp only [go_sem, seval, reduceCtorEq])
theorem sSliceCount_d {N : Net} {L : List Int} (h : NSz 1048576 N) (hL : Sz 1048576 L) : Does Try.prog 51 [netA N, .d (ints L)] [] (.d (.int (cntS N L))) [] := by
  have hnl := h.l
  have hcl := (closedL_sz N).len
  (refine spec_of (by kernel_rfl) Try.func51 k_spec_SliceCount (fnOk (Nat.le_of_ble_eq_true rfl) ?_); unfold C_spec_SliceCount)
  (simp only [Nat.reduceSub, List.length_cons, List.length_nil, Nat.reduceAdd, ch_init1, ch_init2, ch_init3, ch_init4, ch_init5, ch_init6, ch_init7, ch_init8]; try simp only [ch_rep]); (simp only [go_sem, seval, reduceCtorEq, List.replicate])
  (refine ti_call (sNetworkOk_d h) ?_ ?_ ?_; (focus (simp only [go_sem, seval, reduceCtorEq]; done)); (first | rfl | (focus (simp only [go_sem]; done))))
  cases hok : netOk N
  · have e := cntS_no (N := N) (L := L) (by simp [hok])
    simp only [go_sem, seval, reduceCtorEq, hok, e]
    (refine FnEnd.mk (Nat.le_of_ble_eq_true rfl) rfl (of_decide_eq_true rfl) ?_ ?_ <;> try simp only [go_sem, seval, reduceCtorEq])
  simp only [go_sem, seval, reduceCtorEq, hok]
  by_cases b1 : (L.length : Int) > 4
  · have e := cntS_no (N := N) (L := L) (by omega)
    simp only [go_sem, seval, reduceCtorEq, b1, e]
    (refine FnEnd.mk (Nat.le_of_ble_eq_true rfl) rfl (of_decide_eq_true rfl) ?_ ?_ <;> try simp only [go_sem, seval, reduceCtorEq])
  have hax := netOk_ax hok
  simp only [go_sem, seval, reduceCtorEq, b1]
  (refine ti_call (l21Closed_d h hok) ?_ ?_ ?_; (focus (simp only [go_sem, seval, reduceCtorEq]; done)); (first | rfl | (focus (simp only [go_sem]; done))))
  simp only [go_sem, seval, reduceCtorEq]
  refine wpN_lpI (L.length) [false, false, false, false, true, false, true, true, false, false, false, false, false, false, false, false, false, false, false, false, false, true, true, true, true, true, true, true, true, true, true, true, true, true, true, true, true, true, false, false, false, false, false] (fun k => ∀ j (hj : j < L.length), j < k → L[j] ∈ closedL N ∧ L[j] ∉ L.take j) (fun k => [(20, .d (.int k))]) (fun k => []) (fun _ => by (simp only [go_sem, seval, reduceCtorEq, dropF_ch, dropF_cons, dropF_nil, cut, cond_true, cond_false]); first | done | rfl) (fun _ => by (simp only [go_sem, seval, reduceCtorEq, cut]); first | done | rfl) (fun j _ hj => absurd hj (Nat.not_lt_zero j)) (Nat.le_of_ble_eq_true rfl) (by first | (simp only [go_sem, seval, reduceCtorEq, dropF_ch, dropF_cons, dropF_nil, cut, cond_true, cond_false, Int.natCast_zero, Int.natCast_add, Int.natCast_one]; done) | rfl | (simp only [go_sem, seval, reduceCtorEq, dropF_ch, dropF_cons, dropF_nil, cut, cond_true, cond_false, Int.natCast_zero, Int.natCast_add, Int.natCast_one]; rfl)) (by first | (simp only [go_sem, seval, reduceCtorEq, dropF_ch, dropF_cons, dropF_nil, cut, cond_true, cond_false, Int.natCast_zero, Int.natCast_add, Int.natCast_one]; done) | rfl | (simp only [go_sem, seval, reduceCtorEq, dropF_ch, dropF_cons, dropF_nil, cut, cond_true, cond_false, Int.natCast_zero, Int.natCast_add, Int.natCast_one]; rfl)) fun k hk hi => ?_
  unfold L0_spec_SliceCount
  by_cases hlt : k < L.length
  · have d1 : (k : Int) < L.length := by omega
    have g : L[k]? = some L[k] := List.getElem?_eq_getElem hlt
    have hbad : ¬ (L[k] ∈ closedL N ∧ L[k] ∉ L.take k) → cntS N L = -1 := fun hb => cntS_no fun e => by rw [distB_no k hlt hb] at e; simp at e
    have htk : (L.take k).length = k := by rw [List.length_take]; omega
    simp (disch := omega) only [go_sem, seval, reduceCtorEq, d1, g]
    (refine ti_call (l05Find_d (xs := closedL N) (x := L[k]) (by omega)) ?_ ?_ ?_; (focus (simp only [go_sem, seval, reduceCtorEq]; done)); (first | rfl | (focus (simp only [go_sem]; done))))
    by_cases hm : L[k] ∈ closedL N
    rotate_left
    · have e := hbad fun x => hm x.1
      have c : place (closedL N) L[k] < 0 := place_neg.2 hm
      simp (disch := omega) only [go_sem, seval, reduceCtorEq, c, e]
      (refine FnEnd.mk (Nat.le_of_ble_eq_true rfl) rfl (of_decide_eq_true rfl) ?_ ?_ <;> try simp only [go_sem, seval, reduceCtorEq])
    have c : ¬ place (closedL N) L[k] < 0 := fun e => place_neg.1 e hm
    simp (disch := omega) only [go_sem, seval, reduceCtorEq, c]
    (repeat (refine And.intro (by omega) ?_))
    (refine ti_call (l05Find_d (xs := L.take k) (x := L[k]) (by omega)) ?_ ?_ ?_; (focus (simp only [go_sem, seval, reduceCtorEq, htk, Int.sub_zero]; done)); (first | rfl | (focus (simp only [go_sem]; done))))
    by_cases hm2 : L[k] ∈ L.take k
    rotate_left
    · have hI : ∀ j (hj : j < L.length), j < k + 1 → L[j] ∈ closedL N ∧ L[j] ∉ L.take j := fun j hj hjk => by
        by_cases e : j = k
        · subst e
          exact ⟨hm, hm2⟩
        · exact hi j hj (by omega)
      have c2 : ¬ place (L.take k) L[k] ≥ 0 := by have := place_neg.2 hm2; omega
      simp (disch := omega) only [go_sem, seval, reduceCtorEq, c2]
      (refine NextI.drop [false, false, false, false, true, false, true, true, false, false, false, false, false, false, false, false, false, false, false, false, false, true, true, true, true, true, true, true, true, true, true, true, true, true, true, true, true, true, false, false, false, false, false] (by omega) (hI) (Nat.le_of_ble_eq_true rfl) ?_ ?_ <;> first | (simp only [go_sem, seval, reduceCtorEq, dropF_ch, dropF_cons, dropF_nil, cut, cond_true, cond_false, Int.natCast_zero, Int.natCast_add, Int.natCast_one]; done) | rfl | (simp only [go_sem, seval, reduceCtorEq, dropF_ch, dropF_cons, dropF_nil, cut, cond_true, cond_false, Int.natCast_zero, Int.natCast_add, Int.natCast_one]; rfl) | skip)
    · have e := hbad fun x => x.2 hm2
      have c2 : place (L.take k) L[k] ≥ 0 := by
        have h0 : ¬ place (L.take k) L[k] < 0 := fun e => place_neg.1 e hm2
        omega
      simp (disch := omega) only [go_sem, seval, reduceCtorEq, c2, e]
      (refine FnEnd.mk (Nat.le_of_ble_eq_true rfl) rfl (of_decide_eq_true rfl) ?_ ?_ <;> try simp only [go_sem, seval, reduceCtorEq])
  have d1 : ¬ (k : Int) < L.length := by omega
  obtain rfl : k = L.length := by omega
  have hdi : distB (closedL N) L = true := decide_eq_true fun k hk => hi k hk hk
  have hmem : ∀ x ∈ L, x ∈ closedL N := (distB_nodup hdi).2
  have e : cntS N L = prodI (L.map (dimN N.ts)) := by rw [cntS, if_pos ⟨hok, by omega, hdi⟩]
  have hds : ∀ d ∈ L.map (dimN N.ts), 1 ≤ d ∧ d ≤ 8 := fun d hd => by
    obtain ⟨x, hx, rfl⟩ := List.mem_map.1 hd
    exact (closed_dim hok (hmem x hx)).2
  have hpp := prodI_pow hds
  have hml : (L.map (dimN N.ts)).length = L.length := by simp
  have hpw : (8 : Int) ^ (L.map (dimN N.ts)).length ≤ 4096 := by
    rw [hml]
    have : L.length = 0 ∨ L.length = 1 ∨ L.length = 2 ∨ L.length = 3 ∨ L.length = 4 := by omega
    rcases this with q | q | q | q | q <;> rw [q] <;> decide
  have hmn : min (prodI (L.map (dimN N.ts))) 65537 = prodI (L.map (dimN N.ts)) := by omega
  clear hi
  simp (disch := omega) only [go_sem, seval, reduceCtorEq, d1]
  (refine ti_call (l12Dims_d (ts := N.ts) (L := L) h.l h.t hax hL.len) ?_ ?_ ?_; (focus (simp only [go_sem, seval, reduceCtorEq]; done)); (first | rfl | (focus (simp only [go_sem]; done))))
  simp (disch := omega) only [go_sem, seval, reduceCtorEq]
  have htL : (L.map (dimN N.ts)).take L.length = L.map (dimN N.ts) := List.take_of_length_le (by omega)
  (refine ti_call (l05Product_d (ds := L.map (dimN N.ts)) (lim := 65536) (by omega) (fun d hd => by have := hds d hd; omega) (by omega)) ?_ ?_ ?_; (focus (simp only [go_sem, seval, reduceCtorEq, hml, htL]; done)); (first | rfl | (focus (simp only [go_sem]; done))))
  simp (disch := omega) only [go_sem, seval, reduceCtorEq, hmn, e]
  (refine FnEnd.mk (Nat.le_of_ble_eq_true rfl) rfl (of_decide_eq_true rfl) ?_ ?_ <;> try simp only [go_sem, seval, reduceCtorEq])
end Go.Proofs.Ytbebaoibniajpaa
