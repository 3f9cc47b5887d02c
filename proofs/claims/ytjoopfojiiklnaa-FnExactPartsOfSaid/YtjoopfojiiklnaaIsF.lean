/-
  Contracts: parts of a network (the reference's), forests. No condition.
-/
import Derived.Test.YtjoopfojiiklnaaMgPartsOfA
import Derived.Test.YtjoopfojiiklnaaPlF
import Derived.Test.YtjoopfojiiklnaaPlW
import Derived.Test.YtjoopfojiiklnaaEliA
import Derived.Test.YtjoopfojiiklnaaEliB
import Derived.Test.YtjoopfojiiklnaaSetA
namespace Go.Proofs.Ytjoopfojiiklnaa
open Go.RowKit Go.Lift Plain
set_option linter.unusedSimpArgs false
set_option linter.unusedVariables false
set_option maxRecDepth 100000

def labF (ts : List Ten) (i : Nat) : List Int := (tget ts i).labels
def tabN (n : Nat) (r : Nat → Nat) : List Int := tab n fun j => (r j : Int)
section
variable {n j : Nat} {r s : Nat → Nat} {ts : List Ten} {N : Net}
theorem labF_at {i : Nat} (h : i < ts.length) : labF ts i = ts[i].labels := by rw [labF, tget_at h]
theorem tabN_len : (tabN n r).length = n := tab_len ..
theorem tabN_get (h : j < n) : (tabN n r)[j]? = some (r j : Int) := tab_get _ h
theorem tabN_congr (h : ∀ j, j < n → r j = s j) : tabN n r = tabN n s := tab_congr fun j hj => by rw [h j hj]
theorem tabN_put {v : Nat} (hj : j < n) (h : ∀ i, i < n → s i = if i = j then v else r i) : (tabN n r).take j ++ [(v : Int)] ++ (tabN n r).drop (j + 1) = tabN n s := tab_put hj fun i hi => by rw [h i hi]; split <;> rfl
theorem tabN_zero (n : Nat) : List.replicate n (0 : Int) = tabN n fun _ => 0 := tab_rep n
theorem tabN_snoc : tabN n r ++ [(r n : Int)] = tabN (n + 1) r := by simp [tabN, tab, List.range_succ]
def part1 (r s : Nat → Nat) (j i : Nat) : Nat := if i < j then s i else r i
theorem part1_zero : tabN n (part1 r s 0) = tabN n r := tabN_congr fun j _ => if_neg (Nat.not_lt_zero j)
theorem part1_all : tabN n (part1 r s n) = tabN n s := tabN_congr fun j h => if_pos h
theorem part1_at : part1 r s j j = r j := if_neg (Nat.lt_irrefl j)
theorem part1_set (hj : j < n) : (tabN n (part1 r s j)).take j ++ [(s j : Int)] ++ (tabN n (part1 r s j)).drop (j + 1) = tabN n (part1 r s (j + 1)) := tabN_put hj fun i hi => by
  unfold part1
  by_cases e : i = j
  · subst e; rw [if_pos (by omega), if_pos rfl]
  · by_cases c : i < j
    · rw [if_pos (by omega), if_neg e, if_pos c]
    · rw [if_neg (by omega), if_neg e, if_neg c]
theorem part1_keep (h : s j = r j) : tabN n (part1 r s (j + 1)) = tabN n (part1 r s j) := tabN_congr fun i hi => by
  unfold part1
  by_cases e : i = j
  · subst e; rw [if_pos (by omega), if_neg (by omega), h]
  · by_cases c : i < j
    · rw [if_pos (by omega), if_pos c]
    · rw [if_neg (by omega), if_neg c]
noncomputable def forB (N : Net) : Bool := netOk N && decide (redu mrg (fun i => i) (edgT N.ts.length (labF N.ts) N.ts.length) = 0)
theorem edg_pre {m : Nat} {L : Nat → List Int} {k q : Nat} (hk : k < m) : ∃ rest, edgT m L m = edgQ m L k q ++ rest := by
  have h1 : ∀ d, ∃ rest, edgT m L (k + 1 + d) = edgT m L (k + 1) ++ rest := by
    intro d
    induction d with
    | zero => exact ⟨[], by simp⟩
    | succ d ih =>
      obtain ⟨r, hr⟩ := ih
      refine ⟨r ++ (L (k + 1 + d)).map fun x => (k + 1 + d, m + x.toNat), ?_⟩
      rw [← Nat.add_assoc, edgT, List.range_succ, List.flatMap_append, ← edgT, hr]
      simp
  obtain ⟨r, hr⟩ := h1 (m - (k + 1))
  rw [show k + 1 + (m - (k + 1)) = m by omega] at hr
  refine ⟨((L k).drop q).map (fun x => (k, m + x.toNat)) ++ r, ?_⟩
  rw [hr, ← List.append_assoc]
  congr 1
  rw [← edgQ_end (q := (L k).length) (Nat.le_refl _), edgQ, edgQ, List.append_assoc, ← List.map_append, List.take_append_drop, List.take_of_length_le (Nat.le_refl _)]
theorem labF_bd (hok : netOk N = true) : ∀ i, i < N.ts.length → ∀ x ∈ labF N.ts i, 0 ≤ x ∧ x ≤ 99 := fun i hi x hx => by
  rw [labF_at hi] at hx
  have hax := netOk_ax hok _ (List.getElem_mem hi)
  obtain ⟨q, hq, rfl⟩ := List.mem_iff_getElem.1 hx
  have := hax.2.2 q hq
  unfold axAt at this
  rw [getD_of hq] at this
  omega
end
set_option maxHeartbeats 800000 in
theorem iIsForest_d {N : Net} (h : NSz 1048576 N) : Does Try.prog 18 [netA N] [] (.d (.bool (forB N))) [] := by
  have hnl := h.l
  (refine spec_of (by kernel_rfl) Try.func18 k_impl_IsForest (fnOk (Nat.le_of_ble_eq_true rfl) ?_); unfold C_impl_IsForest)
  (simp only [Nat.reduceSub, List.length_cons, List.length_nil, Nat.reduceAdd, ch_init1, ch_init2, ch_init3, ch_init4, ch_init5, ch_init6, ch_init7, ch_init8]; try simp only [ch_rep]); (simp only [go_sem, seval, reduceCtorEq, List.replicate])
  (refine ti_call (iNetworkOk_d h) ?_ ?_ ?_; (focus (simp only [go_sem, seval, reduceCtorEq]; done)); (first | rfl | (focus (simp only [go_sem]; done))))
  cases hok : netOk N
  · have e : forB N = false := by simp [forB, hok]
    simp only [go_sem, seval, reduceCtorEq, hok, e]
    (refine FnEnd.mk (Nat.le_of_ble_eq_true rfl) rfl (of_decide_eq_true rfl) ?_ ?_ <;> try simp only [go_sem, seval, reduceCtorEq])
  have hbd := labF_bd hok
  have h12 := (netOk_iff.1 hok).2.1
  obtain ⟨m, hm⟩ : ∃ m, m = N.ts.length := ⟨_, rfl⟩
  obtain ⟨n, hn⟩ : ∃ n, n = m + 100 := ⟨_, rfl⟩
  have hnc : (m : Int) + 100 = (n : Int) := by omega
  obtain ⟨L, hL⟩ : ∃ L, L = labF N.ts := ⟨_, rfl⟩
  have efor : forB N = decide (redu mrg (fun i => i) (edgT m L m) = 0) := by rw [forB, hok, hL, hm]; rfl
  rw [← hm, ← hL] at hbd
  have hz := tabN_zero n
  have hz2 : tabN n (part1 (fun _ => 0) (fun i => i) 0) = tabN n fun _ => 0 := part1_zero
  simp (disch := omega) only [go_sem, seval, reduceCtorEq, hok, ← hm, hnc]
  refine And.intro ⟨by omega, by omega⟩ ?_
  simp only [hz]
  refine wpN_lp (n) [false, false, false, false, true, false, false, false, false, false, false, false, false, false, false, false, false, false, false, false, false, false, false, true, true, true, true, true, true, true, false, false, false, false, false, false, false, false, false, false, false, false, false, false, false, false, false, false, false, false, false, false, false, false, false, false, false, false, false, false, false, false, false, false, false, false, false, false, false, false, false, false, false, false, false, false, false, false] (fun k => [(22, .d (.int k))]) (fun k => [(1, iv (tabN n (part1 (fun _ => 0) (fun i => i) k)))]) (fun _ => by (simp only [go_sem, seval, reduceCtorEq, dropF_ch, dropF_cons, dropF_nil, cut, cond_true, cond_false]); first | done | rfl) (fun _ => by (simp only [go_sem, seval, reduceCtorEq, cut]); first | done | rfl) (Nat.le_of_ble_eq_true rfl) (by first | (simp only [go_sem, seval, reduceCtorEq, dropF_ch, dropF_cons, dropF_nil, cut, cond_true, cond_false, Int.natCast_zero, Int.natCast_add, Int.natCast_one, hz2]; done) | rfl | (simp only [go_sem, seval, reduceCtorEq, dropF_ch, dropF_cons, dropF_nil, cut, cond_true, cond_false, Int.natCast_zero, Int.natCast_add, Int.natCast_one, hz2]; rfl)) (by first | (simp only [go_sem, seval, reduceCtorEq, dropF_ch, dropF_cons, dropF_nil, cut, cond_true, cond_false, Int.natCast_zero, Int.natCast_add, Int.natCast_one, hz2]; done) | rfl | (simp only [go_sem, seval, reduceCtorEq, dropF_ch, dropF_cons, dropF_nil, cut, cond_true, cond_false, Int.natCast_zero, Int.natCast_add, Int.natCast_one, hz2]; rfl)) fun k hk => ?_
  unfold L3_impl_IsForest
  have htl := tabN_len (n := n) (r := part1 (fun _ => 0) (fun i => i) k)
  by_cases hlt : k < n
  · have d1 : (k : Int) < n := by omega
    have hs := part1_set (r := fun _ => 0) (s := fun i => i) hlt
    simp (disch := omega) only [go_sem, seval, reduceCtorEq, d1]
    (repeat (refine And.intro (by omega) ?_))
    (refine Next.drop [false, false, false, false, true, false, false, false, false, false, false, false, false, false, false, false, false, false, false, false, false, false, false, true, true, true, true, true, true, true, false, false, false, false, false, false, false, false, false, false, false, false, false, false, false, false, false, false, false, false, false, false, false, false, false, false, false, false, false, false, false, false, false, false, false, false, false, false, false, false, false, false, false, false, false, false, false, false] (by omega) (Nat.le_of_ble_eq_true rfl) ?_ ?_ <;> first | (simp only [go_sem, seval, reduceCtorEq, dropF_ch, dropF_cons, dropF_nil, cut, cond_true, cond_false, Int.natCast_zero, Int.natCast_add, Int.natCast_one, hs]; done) | rfl | (simp only [go_sem, seval, reduceCtorEq, dropF_ch, dropF_cons, dropF_nil, cut, cond_true, cond_false, Int.natCast_zero, Int.natCast_add, Int.natCast_one, hs]; rfl) | skip)
  have d1 : ¬ (k : Int) < n := by omega
  obtain rfl : k = n := by omega
  have hal : tabN k (part1 (fun _ => 0) (fun i => i) k) = tabN k (fdg mrg (fun i => i) (edgT m L 0)) := part1_all
  simp (disch := omega) only [go_sem, seval, reduceCtorEq, d1, hal]
  have hJ0 : redu mrg (fun i => i) (edgT m L 0) = 0 := rfl
  refine wpN_lpI (m) [false, false, true, false, false, true, true, false, true, true, true, true, false, false, false, false, false, false, false, false, false, false, false, false, false, false, false, false, false, false, false, false, false, false, true, true, true, true, true, true, true, true, true, true, true, true, true, true, true, true, true, true, true, true, true, true, true, true, true, true, true, true, true, true, true, true, true, true, true, true, true, true, true, true, true, true, true, true] (fun i => redu mrg (fun i => i) (edgT m L i) = 0) (fun i => [(33, .d (.int i))]) (fun i => [(1, iv (tabN k (fdg mrg (fun i => i) (edgT m L i))))]) (fun _ => by (simp only [go_sem, seval, reduceCtorEq, dropF_ch, dropF_cons, dropF_nil, cut, cond_true, cond_false]); first | done | rfl) (fun _ => by (simp only [go_sem, seval, reduceCtorEq, cut]); first | done | rfl) (hJ0) (Nat.le_of_ble_eq_true rfl) (by first | (simp only [go_sem, seval, reduceCtorEq, dropF_ch, dropF_cons, dropF_nil, cut, cond_true, cond_false, Int.natCast_zero, Int.natCast_add, Int.natCast_one]; done) | rfl | (simp only [go_sem, seval, reduceCtorEq, dropF_ch, dropF_cons, dropF_nil, cut, cond_true, cond_false, Int.natCast_zero, Int.natCast_add, Int.natCast_one]; rfl)) (by first | (simp only [go_sem, seval, reduceCtorEq, dropF_ch, dropF_cons, dropF_nil, cut, cond_true, cond_false, Int.natCast_zero, Int.natCast_add, Int.natCast_one]; done) | rfl | (simp only [go_sem, seval, reduceCtorEq, dropF_ch, dropF_cons, dropF_nil, cut, cond_true, cond_false, Int.natCast_zero, Int.natCast_add, Int.natCast_one]; rfl)) fun i hi hii => ?_
  unfold L2_impl_IsForest
  by_cases hlti : i < m
  · have d2 : (i : Int) < m := by omega
    have hlN : i < N.ts.length := by omega
    have g3 := tcs_cut (List.getElem?_eq_getElem hlN)
    have hst := h.t N.ts[i] (List.getElem_mem hlN)
    have hLi : L i = N.ts[i].labels := by rw [hL, labF_at hlN]
    have hll := hst.l.len
    have hdl := hst.d.len
    have hxl := hst.x.len
    simp (disch := omega) only [go_sem, seval, reduceCtorEq, d2, g3]
    (repeat (refine And.intro (by omega) ?_))
    have hz3 : edgQ m L i 0 = edgT m L i := edgQ_zero i
    have hQ0 : redu mrg (fun i => i) (edgQ m L i 0) = 0 := by rw [hz3]; exact hii
    refine wpN_lpI (N.ts[i].labels.length) [false, false, true, false, false, false, false, false, true, true, true, true, false, false, false, false, false, false, false, false, false, false, false, false, false, false, false, false, false, false, false, false, false, false, false, false, false, false, false, false, false, false, true, true, true, true, true, true, true, true, true, true, true, true, true, true, true, true, true, true, true, true, true, true, true, true, true, true, true, true, true, true, true, true, true, true, true, false] (fun q => redu mrg (fun i => i) (edgQ m L i q) = 0) (fun q => [(41, .d (.int q))]) (fun q => [(1, iv (tabN k (fdg mrg (fun i => i) (edgQ m L i q))))]) (fun _ => by (simp only [go_sem, seval, reduceCtorEq, dropF_ch, dropF_cons, dropF_nil, cut, cond_true, cond_false]); first | done | rfl) (fun _ => by (simp only [go_sem, seval, reduceCtorEq, cut]); first | done | rfl) (hQ0) (Nat.le_of_ble_eq_true rfl) (by first | (simp only [go_sem, seval, reduceCtorEq, dropF_ch, dropF_cons, dropF_nil, cut, cond_true, cond_false, Int.natCast_zero, Int.natCast_add, Int.natCast_one, hz3]; done) | rfl | (simp only [go_sem, seval, reduceCtorEq, dropF_ch, dropF_cons, dropF_nil, cut, cond_true, cond_false, Int.natCast_zero, Int.natCast_add, Int.natCast_one, hz3]; rfl)) (by first | (simp only [go_sem, seval, reduceCtorEq, dropF_ch, dropF_cons, dropF_nil, cut, cond_true, cond_false, Int.natCast_zero, Int.natCast_add, Int.natCast_one, hz3]; done) | rfl | (simp only [go_sem, seval, reduceCtorEq, dropF_ch, dropF_cons, dropF_nil, cut, cond_true, cond_false, Int.natCast_zero, Int.natCast_add, Int.natCast_one, hz3]; rfl)) fun q hq hiq => ?_
    unfold L1_impl_IsForest
    have htl := tabN_len (n := k) (r := fdg mrg (fun i => i) (edgQ m L i q))
    by_cases hltq : q < N.ts[i].labels.length
    · have d3 : (q : Int) < N.ts[i].labels.length := by omega
      have gq : N.ts[i].labels[q]? = some N.ts[i].labels[q] := List.getElem?_eq_getElem hltq
      have hqL : q < (L i).length := by rw [hLi]; exact hltq
      have hxe : (L i)[q] = N.ts[i].labels[q] := by simp [hLi]
      have hx := hbd i hlti (L i)[q] (List.getElem_mem hqL)
      have hnext := edgQ_next (m := m) (L := L) hqL
      obtain ⟨v, hv⟩ : ∃ v, v = m + (L i)[q].toNat := ⟨_, rfl⟩
      rw [← hv] at hnext
      have e1 : (m : Int) + N.ts[i].labels[q] = (v : Int) := by rw [← hxe]; omega
      have hvk : v < k := by omega
      have hik : i < k := by omega
      have dv1 : (v : Int) < k := by omega
      have di1 : (i : Int) < k := by omega
      obtain ⟨R, hR⟩ : ∃ R, R = fdg mrg (fun i => i) (edgQ m L i q) := ⟨_, rfl⟩
      rw [← hR] at htl ⊢
      have ga := tabN_get (r := R) hik
      have gb := tabN_get (r := R) hvk
      simp (disch := omega) only [go_sem, seval, reduceCtorEq, d3, gq, ← hm, e1, dv1, di1, ga, gb]
      (repeat (refine And.intro (by omega) ?_))
      by_cases heq : R i = R v
      · have c1 : ((R i : Int) == R v) = true := beq_iff_eq.2 (by omega)
        have e : forB N = false := by
          rw [efor]
          refine decide_eq_false fun hh => ?_
          obtain ⟨rest, hr⟩ := edg_pre (m := m) (L := L) (k := i) (q := q + 1) hlti
          rw [hr, hnext, redu_app, redu_app, redu, ← hR] at hh
          simp only [heq, if_true] at hh
          omega
        simp (disch := omega) only [go_sem, seval, reduceCtorEq, c1, e]
        (refine FnEnd.mk (Nat.le_of_ble_eq_true rfl) rfl (of_decide_eq_true rfl) ?_ ?_ <;> try simp only [go_sem, seval, reduceCtorEq])
      · have c1 : ((R i : Int) == R v) = false := beq_false_of_ne (by omega)
        have hz4 : tabN k (part1 R (mrg R i v) 0) = tabN k R := part1_zero
        simp (disch := omega) only [go_sem, seval, reduceCtorEq, c1]
        refine wpN_lp (k) [false, false, false, false, false, false, false, false, false, false, false, true, false, false, false, false, false, false, false, false, false, false, false, false, false, false, false, false, false, false, false, false, false, false, false, false, false, false, false, false, false, false, false, false, false, false, false, false, false, false, false, false, false, false, false, false, false, false, false, false, false, false, false, true, true, true, true, true, true, true, true, true, true, true, true, true, false, false] (fun j => [(62, .d (.int j))]) (fun j => [(1, iv (tabN k (part1 R (mrg R i v) j)))]) (fun _ => by (simp only [go_sem, seval, reduceCtorEq, dropF_ch, dropF_cons, dropF_nil, cut, cond_true, cond_false]); first | done | rfl) (fun _ => by (simp only [go_sem, seval, reduceCtorEq, cut]); first | done | rfl) (Nat.le_of_ble_eq_true rfl) (by first | (simp only [go_sem, seval, reduceCtorEq, dropF_ch, dropF_cons, dropF_nil, cut, cond_true, cond_false, Int.natCast_zero, Int.natCast_add, Int.natCast_one, hz4]; done) | rfl | (simp only [go_sem, seval, reduceCtorEq, dropF_ch, dropF_cons, dropF_nil, cut, cond_true, cond_false, Int.natCast_zero, Int.natCast_add, Int.natCast_one, hz4]; rfl)) (by first | (simp only [go_sem, seval, reduceCtorEq, dropF_ch, dropF_cons, dropF_nil, cut, cond_true, cond_false, Int.natCast_zero, Int.natCast_add, Int.natCast_one, hz4]; done) | rfl | (simp only [go_sem, seval, reduceCtorEq, dropF_ch, dropF_cons, dropF_nil, cut, cond_true, cond_false, Int.natCast_zero, Int.natCast_add, Int.natCast_one, hz4]; rfl)) fun j hj => ?_
        unfold L0_impl_IsForest
        have htj := tabN_len (n := k) (r := part1 R (mrg R i v) j)
        by_cases hltj : j < k
        · have d4 : (j : Int) < k := by omega
          have gj : (tabN k (part1 R (mrg R i v) j))[j]? = some (R j : Int) := by rw [tabN_get hltj, part1_at]
          by_cases c : R j = R v
          · have c2 : ((R j : Int) == R v) = true := beq_iff_eq.2 (by omega)
            have hs := part1_set (r := R) (s := mrg R i v) hltj
            have hme : mrg R i v j = R i := by rw [mrg, if_pos c]
            rw [hme] at hs
            simp (disch := omega) only [go_sem, seval, reduceCtorEq, d4, gj, c2]
            (repeat (refine And.intro (by omega) ?_))
            (refine Next.drop [false, false, false, false, false, false, false, false, false, false, false, true, false, false, false, false, false, false, false, false, false, false, false, false, false, false, false, false, false, false, false, false, false, false, false, false, false, false, false, false, false, false, false, false, false, false, false, false, false, false, false, false, false, false, false, false, false, false, false, false, false, false, false, true, true, true, true, true, true, true, true, true, true, true, true, true, false, false] (by omega) (Nat.le_of_ble_eq_true rfl) ?_ ?_ <;> first | (simp only [go_sem, seval, reduceCtorEq, dropF_ch, dropF_cons, dropF_nil, cut, cond_true, cond_false, Int.natCast_zero, Int.natCast_add, Int.natCast_one, hs]; done) | rfl | (simp only [go_sem, seval, reduceCtorEq, dropF_ch, dropF_cons, dropF_nil, cut, cond_true, cond_false, Int.natCast_zero, Int.natCast_add, Int.natCast_one, hs]; rfl) | skip)
          · have c2 : ((R j : Int) == R v) = false := beq_false_of_ne (by omega)
            have hs := part1_keep (n := k) (r := R) (s := mrg R i v) (j := j) (by rw [mrg, if_neg c])
            simp (disch := omega) only [go_sem, seval, reduceCtorEq, d4, gj, c2]
            (repeat (refine And.intro (by omega) ?_))
            (refine Next.drop [false, false, false, false, false, false, false, false, false, false, false, true, false, false, false, false, false, false, false, false, false, false, false, false, false, false, false, false, false, false, false, false, false, false, false, false, false, false, false, false, false, false, false, false, false, false, false, false, false, false, false, false, false, false, false, false, false, false, false, false, false, false, false, true, true, true, true, true, true, true, true, true, true, true, true, true, false, false] (by omega) (Nat.le_of_ble_eq_true rfl) ?_ ?_ <;> first | (simp only [go_sem, seval, reduceCtorEq, dropF_ch, dropF_cons, dropF_nil, cut, cond_true, cond_false, Int.natCast_zero, Int.natCast_add, Int.natCast_one, hs]; done) | rfl | (simp only [go_sem, seval, reduceCtorEq, dropF_ch, dropF_cons, dropF_nil, cut, cond_true, cond_false, Int.natCast_zero, Int.natCast_add, Int.natCast_one, hs]; rfl) | skip)
        · have d4 : ¬ (j : Int) < k := by omega
          obtain rfl : j = k := by omega
          have hs : tabN j (part1 R (mrg R i v) j) = tabN j (fdg mrg (fun i => i) (edgQ m L i (q + 1))) := by rw [part1_all, hnext, fdg_snoc, ← hR]
          have hI : redu mrg (fun i => i) (edgQ m L i (q + 1)) = 0 := by
            rw [hnext, redu_app, hiq, ← hR, redu, if_neg heq]
            rfl
          simp (disch := omega) only [go_sem, seval, reduceCtorEq, d4, hs]
          (refine NextI.drop [false, false, true, false, false, false, false, false, true, true, true, true, false, false, false, false, false, false, false, false, false, false, false, false, false, false, false, false, false, false, false, false, false, false, false, false, false, false, false, false, false, false, true, true, true, true, true, true, true, true, true, true, true, true, true, true, true, true, true, true, true, true, true, true, true, true, true, true, true, true, true, true, true, true, true, true, true, false] (by omega) (hI) (Nat.le_of_ble_eq_true rfl) ?_ ?_ <;> first | (simp only [go_sem, seval, reduceCtorEq, dropF_ch, dropF_cons, dropF_nil, cut, cond_true, cond_false, Int.natCast_zero, Int.natCast_add, Int.natCast_one]; done) | rfl | (simp only [go_sem, seval, reduceCtorEq, dropF_ch, dropF_cons, dropF_nil, cut, cond_true, cond_false, Int.natCast_zero, Int.natCast_add, Int.natCast_one]; rfl) | skip)
    · have d3 : ¬ (q : Int) < N.ts[i].labels.length := by omega
      have hend : edgQ m L i q = edgT m L (i + 1) := edgQ_end (by rw [hLi]; omega)
      rw [hend] at hiq
      simp (disch := omega) only [go_sem, seval, reduceCtorEq, d3, hend]
      (refine NextI.drop [false, false, true, false, false, true, true, false, true, true, true, true, false, false, false, false, false, false, false, false, false, false, false, false, false, false, false, false, false, false, false, false, false, false, true, true, true, true, true, true, true, true, true, true, true, true, true, true, true, true, true, true, true, true, true, true, true, true, true, true, true, true, true, true, true, true, true, true, true, true, true, true, true, true, true, true, true, true] (by omega) (hiq) (Nat.le_of_ble_eq_true rfl) ?_ ?_ <;> first | (simp only [go_sem, seval, reduceCtorEq, dropF_ch, dropF_cons, dropF_nil, cut, cond_true, cond_false, Int.natCast_zero, Int.natCast_add, Int.natCast_one]; done) | rfl | (simp only [go_sem, seval, reduceCtorEq, dropF_ch, dropF_cons, dropF_nil, cut, cond_true, cond_false, Int.natCast_zero, Int.natCast_add, Int.natCast_one]; rfl) | skip)
  · have d2 : ¬ (i : Int) < m := by omega
    obtain rfl : i = m := by omega
    have e : forB N = true := by rw [efor]; exact decide_eq_true hii
    simp (disch := omega) only [go_sem, seval, reduceCtorEq, d2, e]
    (refine FnEnd.mk (Nat.le_of_ble_eq_true rfl) rfl (of_decide_eq_true rfl) ?_ ?_ <;> try simp only [go_sem, seval, reduceCtorEq])
/-! ### By the reference -/
theorem shr_eq {ts : List Ten} {i k : Nat} (hi : i < ts.length) (hk : k < ts.length) : shareB ts[i].labels ts[k].labels = shr (labF ts) i k := by
  rw [Bool.eq_iff_iff, shr_iff, labF_at hi, labF_at hk]
  simp only [shareB, decide_eq_true_eq]
def lstP (m : Nat) (r : Nat → Nat) (i : Nat) : List Int := pickTo (fun j => decide (r j = i)) m
def ptsTo (m : Nat) (r : Nat → Nat) : Nat → List (List Int)
  | 0 => []
  | k + 1 => if 0 < (lstP m r k).length then ptsTo m r k ++ [lstP m r k] else ptsTo m r k
noncomputable def partsL (N : Net) : List (List Int) := if netOk N = true then ptsTo N.ts.length (prt N.ts.length (labF N.ts)) N.ts.length else []
section
variable {m k : Nat} {r : Nat → Nat}
theorem ptsTo_yes (h : 0 < (lstP m r k).length) : ptsTo m r (k + 1) = ptsTo m r k ++ [lstP m r k] := by rw [ptsTo, if_pos h]
theorem ptsTo_no (h : ¬ 0 < (lstP m r k).length) : ptsTo m r (k + 1) = ptsTo m r k := by rw [ptsTo, if_neg h]
theorem ptsTo_len (m : Nat) (r : Nat → Nat) : ∀ k, (ptsTo m r k).length ≤ k
  | 0 => Nat.le_refl 0
  | k + 1 => by
    have := ptsTo_len m r k
    rw [ptsTo]
    split
    · rw [List.length_append, List.length_singleton]; omega
    · omega
end
set_option maxHeartbeats 800000 in
theorem sPartsOf_o {N : Net} (h : NSz 1048576 N) (hok : netOk N = true) : Does Try.prog 58 [netA N] [] (.own 0 0 (partsL N).length) [some ⟨1, true, lsA (partsL N)⟩] := by
  have hnl := h.l
  have h12 := (netOk_iff.1 hok).2.1
  (refine spec_of (by kernel_rfl) Try.func58 k_spec_PartsOf (fnOk (Nat.le_of_ble_eq_true rfl) ?_); unfold C_spec_PartsOf)
  (simp only [Nat.reduceSub, List.length_cons, List.length_nil, Nat.reduceAdd, ch_init1, ch_init2, ch_init3, ch_init4, ch_init5, ch_init6, ch_init7, ch_init8]; try simp only [ch_rep]); (simp only [go_sem, seval, reduceCtorEq, List.replicate])
  (refine ti_call (sNetworkOk_d h) ?_ ?_ ?_; (focus (simp only [go_sem, seval, reduceCtorEq]; done)); (first | rfl | (focus (simp only [go_sem]; done))))
  obtain ⟨m, hm⟩ : ∃ m, m = N.ts.length := ⟨_, rfl⟩
  obtain ⟨L, hL⟩ : ∃ L, L = labF N.ts := ⟨_, rfl⟩
  have epl : partsL N = ptsTo m (prt m L) m := by rw [partsL, if_pos hok, ← hm, ← hL]
  have hz : tabN 0 (fun i => i) = [] := rfl
  simp (disch := omega) only [go_sem, seval, reduceCtorEq, hok, ← hm]
  refine wpN_lp (m) [false, false, false, false, true, false, false, false, false, false, false, false, false, false, false, false, false, false, false, false, true, false, false, false, false, true, true, true, true, true, true, true, false, false, false, false, false, false, false, false, false, false, false, false, false, false, false, false, false, false, false, false, false, false, false, false, false, false, false, false, false, false, false, false, false, false, false, false, false, false, false, false, false, false, false, false, false, false, false, false, false, false, false, false, false, false, false, false, false, false, false, false, false, false, false, false, false, false, false, false, false, false, false, false, false, false, false, false, false, false, false, false, false, false, false, false, false, false, false, false] (fun k => [(3, .own 1 0 k), (24, .d (.int k))]) (fun k => [(1, iv (tabN k fun i => i))]) (fun _ => by (simp only [go_sem, seval, reduceCtorEq, dropF_ch, dropF_cons, dropF_nil, cut, cond_true, cond_false]); first | done | rfl) (fun _ => by (simp only [go_sem, seval, reduceCtorEq, cut]); first | done | rfl) (Nat.le_of_ble_eq_true rfl) (by first | (simp only [go_sem, seval, reduceCtorEq, dropF_ch, dropF_cons, dropF_nil, cut, cond_true, cond_false, Int.natCast_zero, Int.natCast_add, Int.natCast_one, hz, iv_nil]; done) | rfl | (simp only [go_sem, seval, reduceCtorEq, dropF_ch, dropF_cons, dropF_nil, cut, cond_true, cond_false, Int.natCast_zero, Int.natCast_add, Int.natCast_one, hz, iv_nil]; rfl)) (by first | (simp only [go_sem, seval, reduceCtorEq, dropF_ch, dropF_cons, dropF_nil, cut, cond_true, cond_false, Int.natCast_zero, Int.natCast_add, Int.natCast_one, hz, iv_nil]; done) | rfl | (simp only [go_sem, seval, reduceCtorEq, dropF_ch, dropF_cons, dropF_nil, cut, cond_true, cond_false, Int.natCast_zero, Int.natCast_add, Int.natCast_one, hz, iv_nil]; rfl)) fun k hk => ?_
  unfold L5_spec_PartsOf
  have htl := tabN_len (n := k) (r := fun i => i)
  by_cases hlt : k < m
  · have d1 : (k : Int) < m := by omega
    have hs := tabN_snoc (n := k) (r := fun i => i)
    simp (disch := omega) only [go_sem, seval, reduceCtorEq, d1]
    (repeat (refine And.intro (by omega) ?_))
    (refine Next.drop [false, false, false, false, true, false, false, false, false, false, false, false, false, false, false, false, false, false, false, false, true, false, false, false, false, true, true, true, true, true, true, true, false, false, false, false, false, false, false, false, false, false, false, false, false, false, false, false, false, false, false, false, false, false, false, false, false, false, false, false, false, false, false, false, false, false, false, false, false, false, false, false, false, false, false, false, false, false, false, false, false, false, false, false, false, false, false, false, false, false, false, false, false, false, false, false, false, false, false, false, false, false, false, false, false, false, false, false, false, false, false, false, false, false, false, false, false, false, false, false] (by omega) (Nat.le_of_ble_eq_true rfl) ?_ ?_ <;> first | (simp only [go_sem, seval, reduceCtorEq, dropF_ch, dropF_cons, dropF_nil, cut, cond_true, cond_false, Int.natCast_zero, Int.natCast_add, Int.natCast_one, hs]; done) | rfl | (simp only [go_sem, seval, reduceCtorEq, dropF_ch, dropF_cons, dropF_nil, cut, cond_true, cond_false, Int.natCast_zero, Int.natCast_add, Int.natCast_one, hs]; rfl) | skip)
  have d1 : ¬ (k : Int) < m := by omega
  obtain rfl : k = m := by omega
  have hz1 : tabN k (fdg smg (fun i => i) (metT L 0)) = tabN k fun i => i := rfl
  simp (disch := omega) only [go_sem, seval, reduceCtorEq, d1, ← hm]
  refine wpN_lp (k) [false, false, false, false, false, true, true, true, true, true, true, true, false, false, false, false, false, false, false, false, false, false, false, false, false, false, false, false, false, false, false, false, false, false, false, false, true, true, true, true, true, true, true, true, true, true, true, true, true, true, true, true, true, true, true, true, true, true, true, true, true, true, true, true, true, true, true, true, true, true, true, true, true, true, true, true, true, true, true, true, true, true, true, true, true, true, true, true, true, false, false, false, false, false, false, false, false, false, false, false, false, false, false, false, false, false, false, false, false, false, false, false, false, false, false, false, false, false, false, false] (fun i => [(35, .d (.int i))]) (fun i => [(1, iv (tabN k (fdg smg (fun i => i) (metT L i))))]) (fun _ => by (simp only [go_sem, seval, reduceCtorEq, dropF_ch, dropF_cons, dropF_nil, cut, cond_true, cond_false]); first | done | rfl) (fun _ => by (simp only [go_sem, seval, reduceCtorEq, cut]); first | done | rfl) (Nat.le_of_ble_eq_true rfl) (by first | (simp only [go_sem, seval, reduceCtorEq, dropF_ch, dropF_cons, dropF_nil, cut, cond_true, cond_false, Int.natCast_zero, Int.natCast_add, Int.natCast_one, hz1]; done) | rfl | (simp only [go_sem, seval, reduceCtorEq, dropF_ch, dropF_cons, dropF_nil, cut, cond_true, cond_false, Int.natCast_zero, Int.natCast_add, Int.natCast_one, hz1]; rfl)) (by first | (simp only [go_sem, seval, reduceCtorEq, dropF_ch, dropF_cons, dropF_nil, cut, cond_true, cond_false, Int.natCast_zero, Int.natCast_add, Int.natCast_one, hz1]; done) | rfl | (simp only [go_sem, seval, reduceCtorEq, dropF_ch, dropF_cons, dropF_nil, cut, cond_true, cond_false, Int.natCast_zero, Int.natCast_add, Int.natCast_one, hz1]; rfl)) fun i hi => ?_
  unfold L4_spec_PartsOf
  by_cases hlti : i < k
  · have d2 : (i : Int) < k := by omega
    have dle : (i : Int) ≤ k := by omega
    have hiN : i < N.ts.length := by omega
    have g3 := tcs_cut (List.getElem?_eq_getElem hiN)
    have hst := h.t N.ts[i] (List.getElem_mem hiN)
    have hll := hst.l.len
    simp (disch := omega) only [go_sem, seval, reduceCtorEq, d2, g3, dle, ← hm]
    (repeat (refine And.intro (by omega) ?_))
    simp only [true_or, Int.sub_zero, Int.toNat_natCast, go_sem, seval, reduceCtorEq, tcs_taken]
    have hz2 : tabN k (fdg smg (fun i => i) (metQ L i 0)) = tabN k (fdg smg (fun i => i) (metT L i)) := by rw [metQ_zero]
    refine wpN_lp (i) [false, false, false, false, false, false, false, true, true, true, true, true, false, false, false, false, false, false, false, false, false, false, false, false, false, false, false, false, false, false, false, false, false, false, false, false, false, false, false, false, false, false, false, false, false, false, true, true, true, true, true, true, true, true, true, true, true, true, true, true, true, true, true, true, true, true, true, true, true, true, true, true, true, true, true, true, true, true, true, true, true, true, true, true, true, true, true, true, false, false, false, false, false, false, false, false, false, false, false, false, false, false, false, false, false, false, false, false, false, false, false, false, false, false, false, false, false, false, false, false] (fun q => [(45, .d (.int q))]) (fun q => [(1, iv (tabN k (fdg smg (fun i => i) (metQ L i q))))]) (fun _ => by (simp only [go_sem, seval, reduceCtorEq, dropF_ch, dropF_cons, dropF_nil, cut, cond_true, cond_false]); first | done | rfl) (fun _ => by (simp only [go_sem, seval, reduceCtorEq, cut]); first | done | rfl) (Nat.le_of_ble_eq_true rfl) (by first | (simp only [go_sem, seval, reduceCtorEq, dropF_ch, dropF_cons, dropF_nil, cut, cond_true, cond_false, Int.natCast_zero, Int.natCast_add, Int.natCast_one, hz2]; done) | rfl | (simp only [go_sem, seval, reduceCtorEq, dropF_ch, dropF_cons, dropF_nil, cut, cond_true, cond_false, Int.natCast_zero, Int.natCast_add, Int.natCast_one, hz2]; rfl)) (by first | (simp only [go_sem, seval, reduceCtorEq, dropF_ch, dropF_cons, dropF_nil, cut, cond_true, cond_false, Int.natCast_zero, Int.natCast_add, Int.natCast_one, hz2]; done) | rfl | (simp only [go_sem, seval, reduceCtorEq, dropF_ch, dropF_cons, dropF_nil, cut, cond_true, cond_false, Int.natCast_zero, Int.natCast_add, Int.natCast_one, hz2]; rfl)) fun q hq => ?_
    unfold L3_spec_PartsOf
    have htl := tabN_len (n := k) (r := fdg smg (fun i => i) (metQ L i q))
    by_cases hltq : q < i
    · have d3 : (q : Int) < i := by omega
      have hqN : q < N.ts.length := by omega
      have gq3 : ((tcs (N.ts.take i)).drop (q * 3)).take 3 = [ints N.ts[q].labels, ints N.ts[q].dims, ints N.ts[q].data] := tcs_cut (by rw [List.getElem?_take, if_pos hltq]; exact List.getElem?_eq_getElem hqN)
      have hsq := h.t N.ts[q] (List.getElem_mem hqN)
      have htk : (N.ts.take i).length = i := by rw [List.length_take]; omega
      simp (disch := omega) only [go_sem, seval, reduceCtorEq, d3, gq3, htk]
      (repeat (refine And.intro (by omega) ?_))
      (refine ti_call (l13Meet_d (t := N.ts[i]) (u := N.ts[q]) hst.l.len hsq.l.len) ?_ ?_ ?_; (focus (simp only [go_sem, seval, reduceCtorEq]; done)); (first | rfl | (focus (simp only [go_sem]; done))))
      have hse := shr_eq hiN hqN
      rw [← hL] at hse
      rw [hse]
      cases hsh : shr L i q
      · simp (disch := omega) only [go_sem, seval, reduceCtorEq, hsh]
        (refine Next.drop [false, false, false, false, false, false, false, true, true, true, true, true, false, false, false, false, false, false, false, false, false, false, false, false, false, false, false, false, false, false, false, false, false, false, false, false, false, false, false, false, false, false, false, false, false, false, true, true, true, true, true, true, true, true, true, true, true, true, true, true, true, true, true, true, true, true, true, true, true, true, true, true, true, true, true, true, true, true, true, true, true, true, true, true, true, true, true, true, false, false, false, false, false, false, false, false, false, false, false, false, false, false, false, false, false, false, false, false, false, false, false, false, false, false, false, false, false, false, false, false] (by omega) (Nat.le_of_ble_eq_true rfl) ?_ ?_ <;> first | (simp only [go_sem, seval, reduceCtorEq, dropF_ch, dropF_cons, dropF_nil, cut, cond_true, cond_false, Int.natCast_zero, Int.natCast_add, Int.natCast_one, metQ_no hsh]; done) | rfl | (simp only [go_sem, seval, reduceCtorEq, dropF_ch, dropF_cons, dropF_nil, cut, cond_true, cond_false, Int.natCast_zero, Int.natCast_add, Int.natCast_one, metQ_no hsh]; rfl) | skip)
      · obtain ⟨R, hR⟩ : ∃ R, R = fdg smg (fun i => i) (metQ L i q) := ⟨_, rfl⟩
        rw [← hR] at htl ⊢
        have hik : i < k := by omega
        have hqk : q < k := by omega
        have di : (i : Int) < k := by omega
        have dq : (q : Int) < k := by omega
        have ga := tabN_get (r := R) hik
        have gb := tabN_get (r := R) hqk
        have hmx : max (R i : Int) (R q) = ((max (R i) (R q) : Nat) : Int) := by omega
        have hmn : min (R i : Int) (R q) = ((min (R i) (R q) : Nat) : Int) := by omega
        have hz4 : tabN k (part1 R (smg R i q) 0) = tabN k R := part1_zero
        simp (disch := omega) only [go_sem, seval, reduceCtorEq, hsh, di, dq, ga, gb, hmx, hmn]
        (repeat (refine And.intro (by omega) ?_))
        refine wpN_lp (k) [false, false, false, false, false, false, false, false, false, false, false, true, false, false, false, false, false, false, false, false, false, false, false, false, false, false, false, false, false, false, false, false, false, false, false, false, false, false, false, false, false, false, false, false, false, false, false, false, false, false, false, false, false, false, false, false, false, false, false, false, false, false, false, false, false, false, false, false, false, false, false, false, false, false, true, true, true, true, true, true, true, true, true, true, true, true, true, false, false, false, false, false, false, false, false, false, false, false, false, false, false, false, false, false, false, false, false, false, false, false, false, false, false, false, false, false, false, false, false, false] (fun j => [(73, .d (.int j))]) (fun j => [(1, iv (tabN k (part1 R (smg R i q) j)))]) (fun _ => by (simp only [go_sem, seval, reduceCtorEq, dropF_ch, dropF_cons, dropF_nil, cut, cond_true, cond_false]); first | done | rfl) (fun _ => by (simp only [go_sem, seval, reduceCtorEq, cut]); first | done | rfl) (Nat.le_of_ble_eq_true rfl) (by first | (simp only [go_sem, seval, reduceCtorEq, dropF_ch, dropF_cons, dropF_nil, cut, cond_true, cond_false, Int.natCast_zero, Int.natCast_add, Int.natCast_one, hz4]; done) | rfl | (simp only [go_sem, seval, reduceCtorEq, dropF_ch, dropF_cons, dropF_nil, cut, cond_true, cond_false, Int.natCast_zero, Int.natCast_add, Int.natCast_one, hz4]; rfl)) (by first | (simp only [go_sem, seval, reduceCtorEq, dropF_ch, dropF_cons, dropF_nil, cut, cond_true, cond_false, Int.natCast_zero, Int.natCast_add, Int.natCast_one, hz4]; done) | rfl | (simp only [go_sem, seval, reduceCtorEq, dropF_ch, dropF_cons, dropF_nil, cut, cond_true, cond_false, Int.natCast_zero, Int.natCast_add, Int.natCast_one, hz4]; rfl)) fun j hj => ?_
        unfold L2_spec_PartsOf
        have htj := tabN_len (n := k) (r := part1 R (smg R i q) j)
        by_cases hltj : j < k
        · have d4 : (j : Int) < k := by omega
          have gj : (tabN k (part1 R (smg R i q) j))[j]? = some (R j : Int) := by rw [tabN_get hltj, part1_at]
          by_cases c : R j = max (R i) (R q)
          · have c2 : ((R j : Int) == ((max (R i) (R q) : Nat) : Int)) = true := beq_iff_eq.2 (by omega)
            have hs := part1_set (r := R) (s := smg R i q) hltj
            have hme : smg R i q j = min (R i) (R q) := by rw [smg, if_pos c]
            rw [hme] at hs
            simp (disch := omega) only [go_sem, seval, reduceCtorEq, d4, gj, c2]
            (repeat (refine And.intro (by omega) ?_))
            (refine Next.drop [false, false, false, false, false, false, false, false, false, false, false, true, false, false, false, false, false, false, false, false, false, false, false, false, false, false, false, false, false, false, false, false, false, false, false, false, false, false, false, false, false, false, false, false, false, false, false, false, false, false, false, false, false, false, false, false, false, false, false, false, false, false, false, false, false, false, false, false, false, false, false, false, false, false, true, true, true, true, true, true, true, true, true, true, true, true, true, false, false, false, false, false, false, false, false, false, false, false, false, false, false, false, false, false, false, false, false, false, false, false, false, false, false, false, false, false, false, false, false, false] (by omega) (Nat.le_of_ble_eq_true rfl) ?_ ?_ <;> first | (simp only [go_sem, seval, reduceCtorEq, dropF_ch, dropF_cons, dropF_nil, cut, cond_true, cond_false, Int.natCast_zero, Int.natCast_add, Int.natCast_one, hs]; done) | rfl | (simp only [go_sem, seval, reduceCtorEq, dropF_ch, dropF_cons, dropF_nil, cut, cond_true, cond_false, Int.natCast_zero, Int.natCast_add, Int.natCast_one, hs]; rfl) | skip)
          · have c2 : ((R j : Int) == ((max (R i) (R q) : Nat) : Int)) = false := beq_false_of_ne (by omega)
            have hs := part1_keep (n := k) (r := R) (s := smg R i q) (j := j) (by rw [smg, if_neg c])
            simp (disch := omega) only [go_sem, seval, reduceCtorEq, d4, gj, c2]
            (repeat (refine And.intro (by omega) ?_))
            (refine Next.drop [false, false, false, false, false, false, false, false, false, false, false, true, false, false, false, false, false, false, false, false, false, false, false, false, false, false, false, false, false, false, false, false, false, false, false, false, false, false, false, false, false, false, false, false, false, false, false, false, false, false, false, false, false, false, false, false, false, false, false, false, false, false, false, false, false, false, false, false, false, false, false, false, false, false, true, true, true, true, true, true, true, true, true, true, true, true, true, false, false, false, false, false, false, false, false, false, false, false, false, false, false, false, false, false, false, false, false, false, false, false, false, false, false, false, false, false, false, false, false, false] (by omega) (Nat.le_of_ble_eq_true rfl) ?_ ?_ <;> first | (simp only [go_sem, seval, reduceCtorEq, dropF_ch, dropF_cons, dropF_nil, cut, cond_true, cond_false, Int.natCast_zero, Int.natCast_add, Int.natCast_one, hs]; done) | rfl | (simp only [go_sem, seval, reduceCtorEq, dropF_ch, dropF_cons, dropF_nil, cut, cond_true, cond_false, Int.natCast_zero, Int.natCast_add, Int.natCast_one, hs]; rfl) | skip)
        · have d4 : ¬ (j : Int) < k := by omega
          obtain rfl : j = k := by omega
          have hs : tabN j (part1 R (smg R i q) j) = tabN j (fdg smg (fun i => i) (metQ L i (q + 1))) := by rw [part1_all, metQ_yes hsh, fdg_snoc, ← hR]
          simp (disch := omega) only [go_sem, seval, reduceCtorEq, d4, hs]
          (refine Next.drop [false, false, false, false, false, false, false, true, true, true, true, true, false, false, false, false, false, false, false, false, false, false, false, false, false, false, false, false, false, false, false, false, false, false, false, false, false, false, false, false, false, false, false, false, false, false, true, true, true, true, true, true, true, true, true, true, true, true, true, true, true, true, true, true, true, true, true, true, true, true, true, true, true, true, true, true, true, true, true, true, true, true, true, true, true, true, true, true, false, false, false, false, false, false, false, false, false, false, false, false, false, false, false, false, false, false, false, false, false, false, false, false, false, false, false, false, false, false, false, false] (by omega) (Nat.le_of_ble_eq_true rfl) ?_ ?_ <;> first | (simp only [go_sem, seval, reduceCtorEq, dropF_ch, dropF_cons, dropF_nil, cut, cond_true, cond_false, Int.natCast_zero, Int.natCast_add, Int.natCast_one]; done) | rfl | (simp only [go_sem, seval, reduceCtorEq, dropF_ch, dropF_cons, dropF_nil, cut, cond_true, cond_false, Int.natCast_zero, Int.natCast_add, Int.natCast_one]; rfl) | skip)
    · have d3 : ¬ (q : Int) < i := by omega
      obtain rfl : q = i := by omega
      simp (disch := omega) only [go_sem, seval, reduceCtorEq, d3, metQ_end]
      (refine Next.drop [false, false, false, false, false, true, true, true, true, true, true, true, false, false, false, false, false, false, false, false, false, false, false, false, false, false, false, false, false, false, false, false, false, false, false, false, true, true, true, true, true, true, true, true, true, true, true, true, true, true, true, true, true, true, true, true, true, true, true, true, true, true, true, true, true, true, true, true, true, true, true, true, true, true, true, true, true, true, true, true, true, true, true, true, true, true, true, true, true, false, false, false, false, false, false, false, false, false, false, false, false, false, false, false, false, false, false, false, false, false, false, false, false, false, false, false, false, false, false, false] (by omega) (Nat.le_of_ble_eq_true rfl) ?_ ?_ <;> first | (simp only [go_sem, seval, reduceCtorEq, dropF_ch, dropF_cons, dropF_nil, cut, cond_true, cond_false, Int.natCast_zero, Int.natCast_add, Int.natCast_one]; done) | rfl | (simp only [go_sem, seval, reduceCtorEq, dropF_ch, dropF_cons, dropF_nil, cut, cond_true, cond_false, Int.natCast_zero, Int.natCast_add, Int.natCast_one]; rfl) | skip)
  have d2 : ¬ (i : Int) < k := by omega
  obtain rfl : i = k := by omega
  have hprt : fdg smg (fun i => i) (metT L i) = prt i L := rfl
  obtain ⟨R, hR⟩ : ∃ R, R = prt i L := ⟨_, rfl⟩
  rw [← hR] at epl hprt
  have htl := tabN_len (n := i) (r := R)
  simp (disch := omega) only [go_sem, seval, reduceCtorEq, d2, hprt]
  have hz5 : lsA (ptsTo i R 0) = [] := rfl
  refine wpN_lp (i) [false, false, false, false, false, false, false, false, false, false, false, false, false, true, true, true, true, false, false, false, false, false, false, false, false, false, false, false, false, false, false, false, false, false, false, false, false, false, false, false, false, false, false, false, false, false, false, false, false, false, false, false, false, false, false, false, false, false, false, false, false, false, false, false, false, false, false, false, false, false, false, false, false, false, false, false, false, false, false, false, false, false, false, false, false, false, false, false, false, true, false, false, false, true, true, true, true, true, true, true, true, true, true, true, true, true, true, true, true, true, true, true, true, true, true, true, true, true, true, false] (fun f => [(12, .own 2 0 (ptsTo i R f).length), (92, .d (.int f))]) (fun f => [(2, lsA (ptsTo i R f))]) (fun _ => by (simp only [go_sem, seval, reduceCtorEq, dropF_ch, dropF_cons, dropF_nil, cut, cond_true, cond_false]); first | done | rfl) (fun _ => by (simp only [go_sem, seval, reduceCtorEq, cut]); first | done | rfl) (Nat.le_of_ble_eq_true rfl) (by first | (simp only [go_sem, seval, reduceCtorEq, dropF_ch, dropF_cons, dropF_nil, cut, cond_true, cond_false, Int.natCast_zero, Int.natCast_add, Int.natCast_one, hz5]; done) | rfl | (simp only [go_sem, seval, reduceCtorEq, dropF_ch, dropF_cons, dropF_nil, cut, cond_true, cond_false, Int.natCast_zero, Int.natCast_add, Int.natCast_one, hz5]; rfl)) (by first | (simp only [go_sem, seval, reduceCtorEq, dropF_ch, dropF_cons, dropF_nil, cut, cond_true, cond_false, Int.natCast_zero, Int.natCast_add, Int.natCast_one, hz5]; done) | rfl | (simp only [go_sem, seval, reduceCtorEq, dropF_ch, dropF_cons, dropF_nil, cut, cond_true, cond_false, Int.natCast_zero, Int.natCast_add, Int.natCast_one, hz5]; rfl)) fun f hf => ?_
  unfold L1_spec_PartsOf
  have hpl := ptsTo_len i R f
  by_cases hltf : f < i
  · have d3 : (f : Int) < i := by omega
    simp (disch := omega) only [go_sem, seval, reduceCtorEq, d3]
    (repeat (refine And.intro (by omega) ?_))
    have hz6 : pickTo (fun j => decide (R j = f)) 0 = [] := rfl
    refine wpN_lp (i) [false, false, false, false, false, false, false, false, false, false, false, false, false, false, false, true, true, false, false, false, false, false, false, false, false, false, false, false, false, false, false, false, false, false, false, false, false, false, false, false, false, false, false, false, false, false, false, false, false, false, false, false, false, false, false, false, false, false, false, false, false, false, false, false, false, false, false, false, false, false, false, false, false, false, false, false, false, false, false, false, false, false, false, false, false, false, false, false, false, false, false, false, false, false, false, true, false, false, false, true, true, true, true, true, true, true, true, true, true, true, true, false, false, false, false, false, false, false, false, false] (fun j => [(14, .own 3 0 (pickTo (fun j => decide (R j = f)) j).length), (98, .d (.int j))]) (fun j => [(3, iv (pickTo (fun j => decide (R j = f)) j))]) (fun _ => by (simp only [go_sem, seval, reduceCtorEq, dropF_ch, dropF_cons, dropF_nil, cut, cond_true, cond_false]); first | done | rfl) (fun _ => by (simp only [go_sem, seval, reduceCtorEq, cut]); first | done | rfl) (Nat.le_of_ble_eq_true rfl) (by first | (simp only [go_sem, seval, reduceCtorEq, dropF_ch, dropF_cons, dropF_nil, cut, cond_true, cond_false, Int.natCast_zero, Int.natCast_add, Int.natCast_one, hz6, iv_nil]; done) | rfl | (simp only [go_sem, seval, reduceCtorEq, dropF_ch, dropF_cons, dropF_nil, cut, cond_true, cond_false, Int.natCast_zero, Int.natCast_add, Int.natCast_one, hz6, iv_nil]; rfl)) (by first | (simp only [go_sem, seval, reduceCtorEq, dropF_ch, dropF_cons, dropF_nil, cut, cond_true, cond_false, Int.natCast_zero, Int.natCast_add, Int.natCast_one, hz6, iv_nil]; done) | rfl | (simp only [go_sem, seval, reduceCtorEq, dropF_ch, dropF_cons, dropF_nil, cut, cond_true, cond_false, Int.natCast_zero, Int.natCast_add, Int.natCast_one, hz6, iv_nil]; rfl)) fun j hj => ?_
    unfold L0_spec_PartsOf
    have hpk := pickTo_len (fun j => decide (R j = f)) j
    by_cases hltj : j < i
    · have d4 : (j : Int) < i := by omega
      have gj := tabN_get (r := R) hltj
      simp (disch := omega) only [go_sem, seval, reduceCtorEq, d4, gj]
      by_cases c : R j = f
      · have c2 : ((R j : Int) == f) = true := beq_iff_eq.2 (by omega)
        have hy := pickTo_yes (p := fun j => decide (R j = f)) (k := j) (decide_eq_true c)
        simp (disch := omega) only [go_sem, seval, reduceCtorEq, c2]
        (repeat (refine And.intro (by omega) ?_))
        (refine Next.drop [false, false, false, false, false, false, false, false, false, false, false, false, false, false, false, true, true, false, false, false, false, false, false, false, false, false, false, false, false, false, false, false, false, false, false, false, false, false, false, false, false, false, false, false, false, false, false, false, false, false, false, false, false, false, false, false, false, false, false, false, false, false, false, false, false, false, false, false, false, false, false, false, false, false, false, false, false, false, false, false, false, false, false, false, false, false, false, false, false, false, false, false, false, false, false, true, false, false, false, true, true, true, true, true, true, true, true, true, true, true, true, false, false, false, false, false, false, false, false, false] (by omega) (Nat.le_of_ble_eq_true rfl) ?_ ?_ <;> first | (simp only [go_sem, seval, reduceCtorEq, dropF_ch, dropF_cons, dropF_nil, cut, cond_true, cond_false, Int.natCast_zero, Int.natCast_add, Int.natCast_one, hy, List.length_append]; done) | rfl | (simp only [go_sem, seval, reduceCtorEq, dropF_ch, dropF_cons, dropF_nil, cut, cond_true, cond_false, Int.natCast_zero, Int.natCast_add, Int.natCast_one, hy, List.length_append]; rfl) | skip)
      · have c2 : ((R j : Int) == f) = false := beq_false_of_ne (by omega)
        have hy := pickTo_no (p := fun j => decide (R j = f)) (k := j) (decide_eq_false c)
        simp (disch := omega) only [go_sem, seval, reduceCtorEq, c2]
        (refine Next.drop [false, false, false, false, false, false, false, false, false, false, false, false, false, false, false, true, true, false, false, false, false, false, false, false, false, false, false, false, false, false, false, false, false, false, false, false, false, false, false, false, false, false, false, false, false, false, false, false, false, false, false, false, false, false, false, false, false, false, false, false, false, false, false, false, false, false, false, false, false, false, false, false, false, false, false, false, false, false, false, false, false, false, false, false, false, false, false, false, false, false, false, false, false, false, false, true, false, false, false, true, true, true, true, true, true, true, true, true, true, true, true, false, false, false, false, false, false, false, false, false] (by omega) (Nat.le_of_ble_eq_true rfl) ?_ ?_ <;> first | (simp only [go_sem, seval, reduceCtorEq, dropF_ch, dropF_cons, dropF_nil, cut, cond_true, cond_false, Int.natCast_zero, Int.natCast_add, Int.natCast_one, hy]; done) | rfl | (simp only [go_sem, seval, reduceCtorEq, dropF_ch, dropF_cons, dropF_nil, cut, cond_true, cond_false, Int.natCast_zero, Int.natCast_add, Int.natCast_one, hy]; rfl) | skip)
    · have d4 : ¬ (j : Int) < i := by omega
      obtain rfl : j = i := by omega
      have hls : pickTo (fun q => decide (R q = f)) j = lstP j R f := rfl
      rw [hls] at hpk
      simp (disch := omega) only [go_sem, seval, reduceCtorEq, d4, hls]
      by_cases hp : 0 < (lstP j R f).length
      · have c1 : ((lstP j R f).length : Int) > 0 := by omega
        simp (disch := omega) only [go_sem, seval, reduceCtorEq, c1]
        (repeat (refine And.intro (by omega) ?_))
        (refine Next.wk (Wk.freeze 3 (Nat.le_of_ble_eq_true rfl) rfl (cellsD_iv) rfl rfl) ?_); (simp only [go_sem, seval, reduceCtorEq, mapL_two, List.take_length])
        (refine Next.drop [false, false, false, false, false, false, false, false, false, false, false, false, false, true, true, true, true, false, false, false, false, false, false, false, false, false, false, false, false, false, false, false, false, false, false, false, false, false, false, false, false, false, false, false, false, false, false, false, false, false, false, false, false, false, false, false, false, false, false, false, false, false, false, false, false, false, false, false, false, false, false, false, false, false, false, false, false, false, false, false, false, false, false, false, false, false, false, false, false, true, false, false, false, true, true, true, true, true, true, true, true, true, true, true, true, true, true, true, true, true, true, true, true, true, true, true, true, true, true, false] (by omega) (Nat.le_of_ble_eq_true rfl) ?_ ?_ <;> first | (simp only [go_sem, seval, reduceCtorEq, dropF_ch, dropF_cons, dropF_nil, cut, cond_true, cond_false, Int.natCast_zero, Int.natCast_add, Int.natCast_one, ptsTo_yes hp, List.length_append]; done) | rfl | (simp only [go_sem, seval, reduceCtorEq, dropF_ch, dropF_cons, dropF_nil, cut, cond_true, cond_false, Int.natCast_zero, Int.natCast_add, Int.natCast_one, ptsTo_yes hp, List.length_append]; rfl) | skip)
      · have c1 : ¬ ((lstP j R f).length : Int) > 0 := by omega
        simp (disch := omega) only [go_sem, seval, reduceCtorEq, c1]
        (refine Next.drop [false, false, false, false, false, false, false, false, false, false, false, false, false, true, true, true, true, false, false, false, false, false, false, false, false, false, false, false, false, false, false, false, false, false, false, false, false, false, false, false, false, false, false, false, false, false, false, false, false, false, false, false, false, false, false, false, false, false, false, false, false, false, false, false, false, false, false, false, false, false, false, false, false, false, false, false, false, false, false, false, false, false, false, false, false, false, false, false, false, true, false, false, false, true, true, true, true, true, true, true, true, true, true, true, true, true, true, true, true, true, true, true, true, true, true, true, true, true, true, false] (by omega) (Nat.le_of_ble_eq_true rfl) ?_ ?_ <;> first | (simp only [go_sem, seval, reduceCtorEq, dropF_ch, dropF_cons, dropF_nil, cut, cond_true, cond_false, Int.natCast_zero, Int.natCast_add, Int.natCast_one, ptsTo_no hp]; done) | rfl | (simp only [go_sem, seval, reduceCtorEq, dropF_ch, dropF_cons, dropF_nil, cut, cond_true, cond_false, Int.natCast_zero, Int.natCast_add, Int.natCast_one, ptsTo_no hp]; rfl) | skip)
  · have d3 : ¬ (f : Int) < i := by omega
    obtain rfl : f = i := by omega
    simp (disch := omega) only [go_sem, seval, reduceCtorEq, d3, epl]
    (refine FnEnd.mk (Nat.le_of_ble_eq_true rfl) rfl (of_decide_eq_true rfl) ?_ ?_ <;> try simp only [go_sem, seval, reduceCtorEq])
end Go.Proofs.Ytjoopfojiiklnaa
