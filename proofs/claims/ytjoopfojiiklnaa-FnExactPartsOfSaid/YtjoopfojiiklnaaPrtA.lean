/-
  Contracts: parts of a network by the program; rows of slices marked, held. No condition.
-/
import Derived.Test.YtjoopfojiiklnaaMgPartsOfA
import Derived.Test.YtjoopfojiiklnaaRwL
import Derived.Test.YtjoopfojiiklnaaIsF
namespace Go.Proofs.Ytjoopfojiiklnaa
open Go.RowKit Go.Lift Plain
set_option linter.unusedSimpArgs false
set_option linter.unusedVariables false
set_option maxRecDepth 100000

theorem dv_cellT' (xs : List Int) : (dv xs).map cellT = iv xs := by simp [dv, iv, cellT]
theorem eqIntSS_l {L : List (List Int)} (h : LSz 1048576 L) : Does Try.prog 60 [.d (lists L), .d (lists L)] [] (.d (.bool true)) [] := eqIntSS_d h.l h.e
theorem markIntSS_d {L : List (List Int)} {m : Int} (h : LSz 1048576 L) (h0 : 0 ≤ m ∧ m + totL L ≤ 1073741824) :
    Does Try.prog 61 [.own 0 0 L.length, .d (.int m)] [some ⟨1, false, trL L⟩] (.d (.int (m + totL L))) [some ⟨1, false, trL (markLs L m)⟩] := by
  have hz : (totL (L.take 0) : Int) = 0 := by simp [totL]
  have hLl := h.l
  (refine spec_of (by kernel_rfl) Try.func61 k_laws_markIntSS (fnOk (Nat.le_of_ble_eq_true rfl) ?_); unfold C_laws_markIntSS)
  (simp only [Nat.reduceSub, List.length_cons, List.length_nil, Nat.reduceAdd, ch_init1, ch_init2, ch_init3, ch_init4, ch_init5, ch_init6, ch_init7, ch_init8]; try simp only [ch_rep]); (simp only [go_sem, seval, reduceCtorEq, List.replicate])
  refine wpN_lp (L.length) [false, false, false, false, false, false, true, true, true, true, true, true, true, true, true, true, true, true, false] (fun k => [(1, .d (.int (m + totL (L.take k)))), (5, .d (.int k))]) (fun k => [(0, trL (mkLTo L m k))]) (fun _ => by (simp only [go_sem, seval, reduceCtorEq, dropF_ch, dropF_cons, dropF_nil, cut, cond_true, cond_false]); first | done | rfl) (fun _ => by (simp only [go_sem, seval, reduceCtorEq, cut]); first | done | rfl) (Nat.le_of_ble_eq_true rfl) (by first | (simp only [go_sem, seval, reduceCtorEq, dropF_ch, dropF_cons, dropF_nil, cut, cond_true, cond_false, Int.natCast_zero, Int.natCast_add, Int.natCast_one, mkLTo_zero, List.take_zero, totL, Int.add_zero]; done) | rfl | (simp only [go_sem, seval, reduceCtorEq, dropF_ch, dropF_cons, dropF_nil, cut, cond_true, cond_false, Int.natCast_zero, Int.natCast_add, Int.natCast_one, mkLTo_zero, List.take_zero, totL, Int.add_zero]; rfl)) (by first | (simp only [go_sem, seval, reduceCtorEq, dropF_ch, dropF_cons, dropF_nil, cut, cond_true, cond_false, Int.natCast_zero, Int.natCast_add, Int.natCast_one, mkLTo_zero, List.take_zero, totL, Int.add_zero]; done) | rfl | (simp only [go_sem, seval, reduceCtorEq, dropF_ch, dropF_cons, dropF_nil, cut, cond_true, cond_false, Int.natCast_zero, Int.natCast_add, Int.natCast_one, mkLTo_zero, List.take_zero, totL, Int.add_zero]; rfl)) fun k hk => ?_
  unfold L0_laws_markIntSS
  by_cases hlt : k < L.length
  · have d1 : (k : Int) < L.length := by omega
    have hst := h.e L[k] (List.getElem_mem hlt)
    have hl1 := hst.len
    have hn := totL_next hlt
    have hle := totL_take L (k + 1)
    have hA := mkL_len (L := L) (m := m) (k := k) (by omega)
    simp (disch := omega) only [go_sem, seval, reduceCtorEq, d1, mkLTo_split hlt]
    refine GH.mk (Wk.sp1 1 k false (trL (markLs (L.take k) m)) (trL (L.drop (k + 1))) (Nat.le_of_ble_eq_true rfl) hA (fun f hf => mapL_trL f hf) (fun f hf => mapL_trL f hf) (fun _ _ _ _ => by simp only [mapL_ch, mapL, mapA, spG])) ?_
    have g0 : ∀ x : AV, (trL (markLs (L.take k) m) ++ [x] ++ trL (L.drop (k + 1)))[k]? = some x := fun x => by
      rw [List.append_assoc, List.getElem?_append_right (by omega), hA, Nat.sub_self]
      rfl
    simp (disch := omega) only [go_sem, seval, reduceCtorEq, dv_cellT', d1, g0]
    (repeat (refine And.intro (by omega) ?_))
    (refine ti_callw [1] false (markIntS_d (xs := L[k]) (m := m + totL (L.take k)) hst.up.len (by omega)) (of_decide_eq_true rfl) ?_ ?_ ?_ ?_ (of_decide_eq_true rfl) ?_; (focus (simp only [go_sem, seval, reduceCtorEq]; done)); (focus (simp only [go_sem, seval, reduceCtorEq]; done)); (focus (simp only [go_sem, seval, reduceCtorEq]; done)); (focus (simp only [go_sem, seval, reduceCtorEq]; done)))
    have hsum : m + (totL (L.take k) : Int) + L[k].length = m + totL (L.take (k + 1)) := by omega
    simp (disch := omega) only [go_sem, seval, reduceCtorEq, hsum]
    (refine Next.mk (by omega) (Wk.trans (Wk.drG [1] 1 (Nat.le_of_ble_eq_true rfl) (Nat.le_of_ble_eq_true rfl) (of_decide_eq_true rfl) (of_decide_eq_true rfl)) ?_)); (simp only [go_sem, seval, reduceCtorEq, dropG_ch, dropG_cons, dropG_nil, cond_true, cond_false, Int.natCast_zero, Int.natCast_add, Int.natCast_one, mkLTo_next hlt]); (refine Wk.eq (Wk.ad1b [false, false, false, false, false, false, true, true, true, true, true, true, true, true, true, true, true, true, false] 0 1 k false (τ := [_]) (Nat.le_of_ble_eq_true rfl) rfl (hA) rfl (treL_iv _) (by simp only [go_sem, seval, reduceCtorEq])) ?_ ?_ <;> first | (simp only [go_sem, seval, reduceCtorEq, dropF_ch, dropF_cons, dropF_nil, cut, cond_true, cond_false, Int.natCast_zero, Int.natCast_add, Int.natCast_one, mkLTo_next hlt]; done) | rfl | (simp only [go_sem, seval, reduceCtorEq, dropF_ch, dropF_cons, dropF_nil, cut, cond_true, cond_false, Int.natCast_zero, Int.natCast_add, Int.natCast_one, mkLTo_next hlt]; rfl) | skip)
  · have d1 : ¬ (k : Int) < L.length := by omega
    have htk : L.take k = L := List.take_of_length_le (by omega)
    simp (disch := omega) only [go_sem, seval, reduceCtorEq, d1, mkLTo_all (show L.length ≤ k by omega), htk]
    (refine FnEnd.mk (Nat.le_of_ble_eq_true rfl) rfl (of_decide_eq_true rfl) ?_ ?_ <;> try simp only [go_sem, seval, reduceCtorEq])
theorem heldIntSS_d {L : List (List Int)} {m : Int} (h : LSz 1048576 L) (h0 : 0 ≤ m ∧ m + totL L ≤ 1073741824) :
    Does Try.prog 62 [.d (lists (markLs L m)), .d (.int m)] [] (.d (.int (m + totL L))) [] := by
  have hml := markLs_len L m
  have hLl := h.l
  (refine spec_of (by kernel_rfl) Try.func62 k_laws_heldIntSS (fnOk (Nat.le_of_ble_eq_true rfl) ?_); unfold C_laws_heldIntSS)
  (simp only [Nat.reduceSub, List.length_cons, List.length_nil, Nat.reduceAdd, ch_init1, ch_init2, ch_init3, ch_init4, ch_init5, ch_init6, ch_init7, ch_init8]; try simp only [ch_rep]); (simp only [go_sem, seval, reduceCtorEq, List.replicate])
  refine wpN_lp (L.length) [false, false, false, false, true, false, true, true, true, true, true, true, true, true, true, true, true, true, true, true, false] (fun k => [(1, .d (.int (m + totL (L.take k)))), (5, .d (.int k))]) (fun k => []) (fun _ => by (simp only [go_sem, seval, reduceCtorEq, dropF_ch, dropF_cons, dropF_nil, cut, cond_true, cond_false]); first | done | rfl) (fun _ => by (simp only [go_sem, seval, reduceCtorEq, cut]); first | done | rfl) (Nat.le_of_ble_eq_true rfl) (by first | (simp only [go_sem, seval, reduceCtorEq, dropF_ch, dropF_cons, dropF_nil, cut, cond_true, cond_false, Int.natCast_zero, Int.natCast_add, Int.natCast_one, List.take_zero, totL, Int.add_zero]; done) | rfl | (simp only [go_sem, seval, reduceCtorEq, dropF_ch, dropF_cons, dropF_nil, cut, cond_true, cond_false, Int.natCast_zero, Int.natCast_add, Int.natCast_one, List.take_zero, totL, Int.add_zero]; rfl)) (by first | (simp only [go_sem, seval, reduceCtorEq, dropF_ch, dropF_cons, dropF_nil, cut, cond_true, cond_false, Int.natCast_zero, Int.natCast_add, Int.natCast_one, List.take_zero, totL, Int.add_zero]; done) | rfl | (simp only [go_sem, seval, reduceCtorEq, dropF_ch, dropF_cons, dropF_nil, cut, cond_true, cond_false, Int.natCast_zero, Int.natCast_add, Int.natCast_one, List.take_zero, totL, Int.add_zero]; rfl)) fun k hk => ?_
  unfold L0_laws_heldIntSS
  by_cases hlt : k < L.length
  · have d1 : (k : Int) < L.length := by omega
    have hst := h.e L[k] (List.getElem_mem hlt)
    have hl1 := hst.len
    have hn := totL_next hlt
    have hle := totL_take L (k + 1)
    have g0 := markLs_get (m := m) hlt
    simp (disch := omega) only [go_sem, seval, reduceCtorEq, d1, g0]
    (repeat (refine And.intro (by omega) ?_))
    (refine ti_call (heldIntS_d (xs := markL L[k] (m + totL (L.take k))) (m := m + totL (L.take k)) (by rw [markL_len]; omega) (by omega)) ?_ ?_ ?_; (focus (simp only [go_sem, seval, reduceCtorEq]; done)); (first | rfl | (focus (simp only [go_sem]; done))))
    have n1 : ¬ (m + (totL (L.take k) : Int) + L[k].length < 0) := by omega
    have hsum : m + (totL (L.take k) : Int) + L[k].length = m + totL (L.take (k + 1)) := by omega
    simp (disch := omega) only [go_sem, seval, reduceCtorEq, heldR_mark, n1]
    (refine Next.drop [false, false, false, false, true, false, true, true, true, true, true, true, true, true, true, true, true, true, true, true, false] (by omega) (Nat.le_of_ble_eq_true rfl) ?_ ?_ <;> first | (simp only [go_sem, seval, reduceCtorEq, dropF_ch, dropF_cons, dropF_nil, cut, cond_true, cond_false, Int.natCast_zero, Int.natCast_add, Int.natCast_one, hsum]; done) | rfl | (simp only [go_sem, seval, reduceCtorEq, dropF_ch, dropF_cons, dropF_nil, cut, cond_true, cond_false, Int.natCast_zero, Int.natCast_add, Int.natCast_one, hsum]; rfl) | skip)
  · have d1 : ¬ (k : Int) < L.length := by omega
    have htk : L.take k = L := List.take_of_length_le (by omega)
    simp (disch := omega) only [go_sem, seval, reduceCtorEq, d1, htk]
    (refine FnEnd.mk (Nat.le_of_ble_eq_true rfl) rfl (of_decide_eq_true rfl) ?_ ?_ <;> try simp only [go_sem, seval, reduceCtorEq])
theorem lstP_mem {m : Nat} {r : Nat → Nat} {i j : Nat} (hj : j < m) (h : r j = i) : 0 < (lstP m r i).length := by
  have : (j : Int) ∈ lstP m r i := by
    simp only [lstP, pickTo, List.mem_map, List.mem_filter, List.mem_range]
    exact ⟨j, ⟨hj, by simpa using h⟩, rfl⟩
  exact List.length_pos_of_mem this
set_option maxHeartbeats 1600000 in
theorem iPartsOf_o {N : Net} (h : NSz 1048576 N) (hok : netOk N = true) : Does Try.prog 59 [netA N] [] (.own 0 0 (partsL N).length) [some ⟨1, true, trL (partsL N)⟩] := by
  have hnl := h.l
  have h12 := (netOk_iff.1 hok).2.1
  (refine spec_of (by kernel_rfl) Try.func59 k_impl_PartsOf (fnOk (Nat.le_of_ble_eq_true rfl) ?_); unfold C_impl_PartsOf)
  (simp only [Nat.reduceSub, List.length_cons, List.length_nil, Nat.reduceAdd, ch_init1, ch_init2, ch_init3, ch_init4, ch_init5, ch_init6, ch_init7, ch_init8]; try simp only [ch_rep]); (simp only [go_sem, seval, reduceCtorEq, List.replicate])
  (refine ti_call (iNetworkOk_d h) ?_ ?_ ?_; (focus (simp only [go_sem, seval, reduceCtorEq]; done)); (first | rfl | (focus (simp only [go_sem]; done))))
  obtain ⟨m, hm⟩ : ∃ m, m = N.ts.length := ⟨_, rfl⟩
  obtain ⟨L, hL⟩ : ∃ L, L = labF N.ts := ⟨_, rfl⟩
  have epl : partsL N = ptsTo m (prt m L) m := by rw [partsL, if_pos hok, ← hm, ← hL]
  have hz0 := tabN_zero m
  have hz2 : tabN m (part1 (fun _ => 0) (fun i => i) 0) = tabN m fun _ => 0 := part1_zero
  simp (disch := omega) only [go_sem, seval, reduceCtorEq, hok, ← hm]
  refine And.intro ⟨by omega, by omega⟩ ?_
  simp only [hz0]
  refine wpN_lp (m) [false, false, false, false, true, false, false, false, false, false, false, false, false, false, false, false, false, false, false, false, false, false, false, false, false, false, true, true, true, true, true, true, true, false, false, false, false, false, false, false, false, false, false, false, false, false, false, false, false, false, false, false, false, false, false, false, false, false, false, false, false, false, false, false, false, false, false, false, false, false, false, false, false, false, false, false, false, false, false, false, false, false, false, false, false, false, false, false, false, false, false, false, false, false, false, false, false, false, false, false, false, false, false, false, false, false, false, false, false, false, false, false, false, false, false, false, false, false, false] (fun k => [(25, .d (.int k))]) (fun k => [(1, iv (tabN m (part1 (fun _ => 0) (fun i => i) k)))]) (fun _ => by (simp only [go_sem, seval, reduceCtorEq, dropF_ch, dropF_cons, dropF_nil, cut, cond_true, cond_false]); first | done | rfl) (fun _ => by (simp only [go_sem, seval, reduceCtorEq, cut]); first | done | rfl) (Nat.le_of_ble_eq_true rfl) (by first | (simp only [go_sem, seval, reduceCtorEq, dropF_ch, dropF_cons, dropF_nil, cut, cond_true, cond_false, Int.natCast_zero, Int.natCast_add, Int.natCast_one, hz2]; done) | rfl | (simp only [go_sem, seval, reduceCtorEq, dropF_ch, dropF_cons, dropF_nil, cut, cond_true, cond_false, Int.natCast_zero, Int.natCast_add, Int.natCast_one, hz2]; rfl)) (by first | (simp only [go_sem, seval, reduceCtorEq, dropF_ch, dropF_cons, dropF_nil, cut, cond_true, cond_false, Int.natCast_zero, Int.natCast_add, Int.natCast_one, hz2]; done) | rfl | (simp only [go_sem, seval, reduceCtorEq, dropF_ch, dropF_cons, dropF_nil, cut, cond_true, cond_false, Int.natCast_zero, Int.natCast_add, Int.natCast_one, hz2]; rfl)) fun k hk => ?_
  unfold L5_impl_PartsOf
  have htl := tabN_len (n := m) (r := part1 (fun _ => 0) (fun i => i) k)
  by_cases hlt : k < m
  · have d1 : (k : Int) < m := by omega
    have hs := part1_set (r := fun _ => 0) (s := fun i => i) hlt
    simp (disch := omega) only [go_sem, seval, reduceCtorEq, d1]
    (repeat (refine And.intro (by omega) ?_))
    (refine Next.drop [false, false, false, false, true, false, false, false, false, false, false, false, false, false, false, false, false, false, false, false, false, false, false, false, false, false, true, true, true, true, true, true, true, false, false, false, false, false, false, false, false, false, false, false, false, false, false, false, false, false, false, false, false, false, false, false, false, false, false, false, false, false, false, false, false, false, false, false, false, false, false, false, false, false, false, false, false, false, false, false, false, false, false, false, false, false, false, false, false, false, false, false, false, false, false, false, false, false, false, false, false, false, false, false, false, false, false, false, false, false, false, false, false, false, false, false, false, false, false] (by omega) (Nat.le_of_ble_eq_true rfl) ?_ ?_ <;> first | (simp only [go_sem, seval, reduceCtorEq, dropF_ch, dropF_cons, dropF_nil, cut, cond_true, cond_false, Int.natCast_zero, Int.natCast_add, Int.natCast_one, hs]; done) | rfl | (simp only [go_sem, seval, reduceCtorEq, dropF_ch, dropF_cons, dropF_nil, cut, cond_true, cond_false, Int.natCast_zero, Int.natCast_add, Int.natCast_one, hs]; rfl) | skip)
  have d1 : ¬ (k : Int) < m := by omega
  obtain rfl : k = m := by omega
  have hal : tabN k (part1 (fun _ => 0) (fun i => i) k) = tabN k (fdg smg (fun i => i) (metT L 0)) := part1_all
  simp (disch := omega) only [go_sem, seval, reduceCtorEq, d1, ← hm, hal]
  refine wpN_lp (k) [false, false, false, false, false, true, true, true, true, true, true, false, false, false, false, false, false, false, false, false, false, false, false, false, false, false, false, false, false, false, false, false, false, false, false, false, false, true, true, true, true, true, true, true, true, true, true, true, true, true, true, true, true, true, true, true, true, true, true, true, true, true, true, true, true, true, true, true, true, true, true, true, true, true, true, true, true, true, true, true, true, true, true, true, true, true, true, true, true, true, true, false, false, false, false, false, false, false, false, false, false, false, false, false, false, false, false, false, false, false, false, false, false, false, false, false, false, false, false] (fun i => [(36, .d (.int i))]) (fun i => [(1, iv (tabN k (fdg smg (fun i => i) (metT L i))))]) (fun _ => by (simp only [go_sem, seval, reduceCtorEq, dropF_ch, dropF_cons, dropF_nil, cut, cond_true, cond_false]); first | done | rfl) (fun _ => by (simp only [go_sem, seval, reduceCtorEq, cut]); first | done | rfl) (Nat.le_of_ble_eq_true rfl) (by first | (simp only [go_sem, seval, reduceCtorEq, dropF_ch, dropF_cons, dropF_nil, cut, cond_true, cond_false, Int.natCast_zero, Int.natCast_add, Int.natCast_one]; done) | rfl | (simp only [go_sem, seval, reduceCtorEq, dropF_ch, dropF_cons, dropF_nil, cut, cond_true, cond_false, Int.natCast_zero, Int.natCast_add, Int.natCast_one]; rfl)) (by first | (simp only [go_sem, seval, reduceCtorEq, dropF_ch, dropF_cons, dropF_nil, cut, cond_true, cond_false, Int.natCast_zero, Int.natCast_add, Int.natCast_one]; done) | rfl | (simp only [go_sem, seval, reduceCtorEq, dropF_ch, dropF_cons, dropF_nil, cut, cond_true, cond_false, Int.natCast_zero, Int.natCast_add, Int.natCast_one]; rfl)) fun i hi => ?_
  unfold L4_impl_PartsOf
  by_cases hlti : i < k
  · have d2 : (i : Int) < k := by omega
    have hiN : i < N.ts.length := by omega
    have g3 := tcs_cut (List.getElem?_eq_getElem hiN)
    have hst := h.t N.ts[i] (List.getElem_mem hiN)
    have hll := hst.l.len
    simp (disch := omega) only [go_sem, seval, reduceCtorEq, d2, g3, ← hm]
    (repeat (refine And.intro (by omega) ?_))
    have hz3 : tabN k (fdg smg (fun i => i) (metQ L i 0)) = tabN k (fdg smg (fun i => i) (metT L i)) := by rw [metQ_zero]
    refine wpN_lp (i) [false, false, false, false, false, false, false, false, true, true, true, false, false, false, false, false, false, false, false, false, false, false, false, false, false, false, false, false, false, false, false, false, false, false, false, false, false, false, false, false, false, true, true, true, true, true, true, true, true, true, true, true, true, true, true, true, true, true, true, true, true, true, true, true, true, true, true, true, true, true, true, true, true, true, true, true, true, true, true, true, true, true, true, true, true, true, true, true, true, true, false, false, false, false, false, false, false, false, false, false, false, false, false, false, false, false, false, false, false, false, false, false, false, false, false, false, false, false, false] (fun q => [(7, .d (.int q))]) (fun q => [(1, iv (tabN k (fdg smg (fun i => i) (metQ L i q))))]) (fun _ => by (simp only [go_sem, seval, reduceCtorEq, dropF_ch, dropF_cons, dropF_nil, cut, cond_true, cond_false]); first | done | rfl) (fun _ => by (simp only [go_sem, seval, reduceCtorEq, cut]); first | done | rfl) (Nat.le_of_ble_eq_true rfl) (by first | (simp only [go_sem, seval, reduceCtorEq, dropF_ch, dropF_cons, dropF_nil, cut, cond_true, cond_false, Int.natCast_zero, Int.natCast_add, Int.natCast_one, hz3]; done) | rfl | (simp only [go_sem, seval, reduceCtorEq, dropF_ch, dropF_cons, dropF_nil, cut, cond_true, cond_false, Int.natCast_zero, Int.natCast_add, Int.natCast_one, hz3]; rfl)) (by first | (simp only [go_sem, seval, reduceCtorEq, dropF_ch, dropF_cons, dropF_nil, cut, cond_true, cond_false, Int.natCast_zero, Int.natCast_add, Int.natCast_one, hz3]; done) | rfl | (simp only [go_sem, seval, reduceCtorEq, dropF_ch, dropF_cons, dropF_nil, cut, cond_true, cond_false, Int.natCast_zero, Int.natCast_add, Int.natCast_one, hz3]; rfl)) fun q hq => ?_
    unfold L3_impl_PartsOf
    have htl := tabN_len (n := k) (r := fdg smg (fun i => i) (metQ L i q))
    by_cases hltq : q < i
    · have d3 : (q : Int) < i := by omega
      have hqN : q < N.ts.length := by omega
      have dqk : (q : Int) < k := by omega
      have gq3 := tcs_cut (List.getElem?_eq_getElem hqN)
      obtain ⟨gq0, _, _⟩ := tcs_get (List.getElem?_eq_getElem hqN)
      have hsq := h.t N.ts[q] (List.getElem_mem hqN)
      simp (disch := omega) only [go_sem, seval, reduceCtorEq, d3, dqk, gq3, gq0, ← hm]
      (repeat (refine And.intro (by omega) ?_))
      (refine ti_call (shareLabel_d (a := N.ts[i].labels) (b := N.ts[q].labels) hst.l.len hsq.l.len) ?_ ?_ ?_; (focus (simp only [go_sem, seval, reduceCtorEq]; done)); (first | rfl | (focus (simp only [go_sem]; done))))
      have hse := shr_eq hiN hqN
      rw [← hL] at hse
      rw [hse]
      cases hsh : shr L i q
      · simp (disch := omega) only [go_sem, seval, reduceCtorEq, hsh]
        (refine Next.drop [false, false, false, false, false, false, false, false, true, true, true, false, false, false, false, false, false, false, false, false, false, false, false, false, false, false, false, false, false, false, false, false, false, false, false, false, false, false, false, false, false, true, true, true, true, true, true, true, true, true, true, true, true, true, true, true, true, true, true, true, true, true, true, true, true, true, true, true, true, true, true, true, true, true, true, true, true, true, true, true, true, true, true, true, true, true, true, true, true, true, false, false, false, false, false, false, false, false, false, false, false, false, false, false, false, false, false, false, false, false, false, false, false, false, false, false, false, false, false] (by omega) (Nat.le_of_ble_eq_true rfl) ?_ ?_ <;> first | (simp only [go_sem, seval, reduceCtorEq, dropF_ch, dropF_cons, dropF_nil, cut, cond_true, cond_false, Int.natCast_zero, Int.natCast_add, Int.natCast_one, metQ_no hsh]; done) | rfl | (simp only [go_sem, seval, reduceCtorEq, dropF_ch, dropF_cons, dropF_nil, cut, cond_true, cond_false, Int.natCast_zero, Int.natCast_add, Int.natCast_one, metQ_no hsh]; rfl) | skip)
      · obtain ⟨R, hR⟩ : ∃ R, R = fdg smg (fun i => i) (metQ L i q) := ⟨_, rfl⟩
        rw [← hR] at htl ⊢
        have hik : i < k := by omega
        have hqk : q < k := by omega
        have di : (i : Int) < k := by omega
        have ga := tabN_get (r := R) hik
        have gb := tabN_get (r := R) hqk
        have hmx : max (R i : Int) (R q) = ((max (R i) (R q) : Nat) : Int) := by omega
        have hmn : min (R i : Int) (R q) = ((min (R i) (R q) : Nat) : Int) := by omega
        have hz4 : tabN k (part1 R (smg R i q) 0) = tabN k R := part1_zero
        simp (disch := omega) only [go_sem, seval, reduceCtorEq, hsh, di, dqk, ga, gb, hmx, hmn]
        (repeat (refine And.intro (by omega) ?_))
        refine wpN_lp (k) [false, false, false, false, false, false, false, false, false, false, true, false, false, false, false, false, false, false, false, false, false, false, false, false, false, false, false, false, false, false, false, false, false, false, false, false, false, false, false, false, false, false, false, false, false, false, false, false, false, false, false, false, false, false, false, false, false, false, false, false, false, false, false, false, false, false, false, false, false, false, false, false, false, false, false, false, false, true, true, true, true, true, true, true, true, true, true, true, true, true, false, false, false, false, false, false, false, false, false, false, false, false, false, false, false, false, false, false, false, false, false, false, false, false, false, false, false, false, false] (fun j => [(76, .d (.int j))]) (fun j => [(1, iv (tabN k (part1 R (smg R i q) j)))]) (fun _ => by (simp only [go_sem, seval, reduceCtorEq, dropF_ch, dropF_cons, dropF_nil, cut, cond_true, cond_false]); first | done | rfl) (fun _ => by (simp only [go_sem, seval, reduceCtorEq, cut]); first | done | rfl) (Nat.le_of_ble_eq_true rfl) (by first | (simp only [go_sem, seval, reduceCtorEq, dropF_ch, dropF_cons, dropF_nil, cut, cond_true, cond_false, Int.natCast_zero, Int.natCast_add, Int.natCast_one, hz4]; done) | rfl | (simp only [go_sem, seval, reduceCtorEq, dropF_ch, dropF_cons, dropF_nil, cut, cond_true, cond_false, Int.natCast_zero, Int.natCast_add, Int.natCast_one, hz4]; rfl)) (by first | (simp only [go_sem, seval, reduceCtorEq, dropF_ch, dropF_cons, dropF_nil, cut, cond_true, cond_false, Int.natCast_zero, Int.natCast_add, Int.natCast_one, hz4]; done) | rfl | (simp only [go_sem, seval, reduceCtorEq, dropF_ch, dropF_cons, dropF_nil, cut, cond_true, cond_false, Int.natCast_zero, Int.natCast_add, Int.natCast_one, hz4]; rfl)) fun j hj => ?_
        unfold L2_impl_PartsOf
        have htj := tabN_len (n := k) (r := part1 R (smg R i q) j)
        by_cases hltj : j < k
        · have d4 : (j : Int) < k := by omega
          have gj : (tabN k (part1 R (smg R i q) j))[j]? = some (R j : Int) := by rw [tabN_get hltj, part1_at]
          by_cases c : R j = max (R i) (R q)
          · have c2 : ((R j : Int) == ((max (R i) (R q) : Nat) : Int)) = true := beq_iff_eq.2 (by omega)
            have hs := part1_set (r := R) (s := smg R i q) hltj
            have hme : smg R i q j = min (R i) (R q) := by rw [smg, if_pos c]
            rw [hme] at hs
            simp (disch := omega) only [go_sem, seval, reduceCtorEq, d4, gj, c2]
            (repeat (refine And.intro (by omega) ?_))
            (refine Next.drop [false, false, false, false, false, false, false, false, false, false, true, false, false, false, false, false, false, false, false, false, false, false, false, false, false, false, false, false, false, false, false, false, false, false, false, false, false, false, false, false, false, false, false, false, false, false, false, false, false, false, false, false, false, false, false, false, false, false, false, false, false, false, false, false, false, false, false, false, false, false, false, false, false, false, false, false, false, true, true, true, true, true, true, true, true, true, true, true, true, true, false, false, false, false, false, false, false, false, false, false, false, false, false, false, false, false, false, false, false, false, false, false, false, false, false, false, false, false, false] (by omega) (Nat.le_of_ble_eq_true rfl) ?_ ?_ <;> first | (simp only [go_sem, seval, reduceCtorEq, dropF_ch, dropF_cons, dropF_nil, cut, cond_true, cond_false, Int.natCast_zero, Int.natCast_add, Int.natCast_one, hs]; done) | rfl | (simp only [go_sem, seval, reduceCtorEq, dropF_ch, dropF_cons, dropF_nil, cut, cond_true, cond_false, Int.natCast_zero, Int.natCast_add, Int.natCast_one, hs]; rfl) | skip)
          · have c2 : ((R j : Int) == ((max (R i) (R q) : Nat) : Int)) = false := beq_false_of_ne (by omega)
            have hs := part1_keep (n := k) (r := R) (s := smg R i q) (j := j) (by rw [smg, if_neg c])
            simp (disch := omega) only [go_sem, seval, reduceCtorEq, d4, gj, c2]
            (repeat (refine And.intro (by omega) ?_))
            (refine Next.drop [false, false, false, false, false, false, false, false, false, false, true, false, false, false, false, false, false, false, false, false, false, false, false, false, false, false, false, false, false, false, false, false, false, false, false, false, false, false, false, false, false, false, false, false, false, false, false, false, false, false, false, false, false, false, false, false, false, false, false, false, false, false, false, false, false, false, false, false, false, false, false, false, false, false, false, false, false, true, true, true, true, true, true, true, true, true, true, true, true, true, false, false, false, false, false, false, false, false, false, false, false, false, false, false, false, false, false, false, false, false, false, false, false, false, false, false, false, false, false] (by omega) (Nat.le_of_ble_eq_true rfl) ?_ ?_ <;> first | (simp only [go_sem, seval, reduceCtorEq, dropF_ch, dropF_cons, dropF_nil, cut, cond_true, cond_false, Int.natCast_zero, Int.natCast_add, Int.natCast_one, hs]; done) | rfl | (simp only [go_sem, seval, reduceCtorEq, dropF_ch, dropF_cons, dropF_nil, cut, cond_true, cond_false, Int.natCast_zero, Int.natCast_add, Int.natCast_one, hs]; rfl) | skip)
        · have d4 : ¬ (j : Int) < k := by omega
          obtain rfl : j = k := by omega
          have hs : tabN j (part1 R (smg R i q) j) = tabN j (fdg smg (fun i => i) (metQ L i (q + 1))) := by rw [part1_all, metQ_yes hsh, fdg_snoc, ← hR]
          simp (disch := omega) only [go_sem, seval, reduceCtorEq, d4, hs]
          (refine Next.drop [false, false, false, false, false, false, false, false, true, true, true, false, false, false, false, false, false, false, false, false, false, false, false, false, false, false, false, false, false, false, false, false, false, false, false, false, false, false, false, false, false, true, true, true, true, true, true, true, true, true, true, true, true, true, true, true, true, true, true, true, true, true, true, true, true, true, true, true, true, true, true, true, true, true, true, true, true, true, true, true, true, true, true, true, true, true, true, true, true, true, false, false, false, false, false, false, false, false, false, false, false, false, false, false, false, false, false, false, false, false, false, false, false, false, false, false, false, false, false] (by omega) (Nat.le_of_ble_eq_true rfl) ?_ ?_ <;> first | (simp only [go_sem, seval, reduceCtorEq, dropF_ch, dropF_cons, dropF_nil, cut, cond_true, cond_false, Int.natCast_zero, Int.natCast_add, Int.natCast_one]; done) | rfl | (simp only [go_sem, seval, reduceCtorEq, dropF_ch, dropF_cons, dropF_nil, cut, cond_true, cond_false, Int.natCast_zero, Int.natCast_add, Int.natCast_one]; rfl) | skip)
    · have d3 : ¬ (q : Int) < i := by omega
      obtain rfl : q = i := by omega
      simp (disch := omega) only [go_sem, seval, reduceCtorEq, d3, metQ_end]
      (refine Next.drop [false, false, false, false, false, true, true, true, true, true, true, false, false, false, false, false, false, false, false, false, false, false, false, false, false, false, false, false, false, false, false, false, false, false, false, false, false, true, true, true, true, true, true, true, true, true, true, true, true, true, true, true, true, true, true, true, true, true, true, true, true, true, true, true, true, true, true, true, true, true, true, true, true, true, true, true, true, true, true, true, true, true, true, true, true, true, true, true, true, true, true, false, false, false, false, false, false, false, false, false, false, false, false, false, false, false, false, false, false, false, false, false, false, false, false, false, false, false, false] (by omega) (Nat.le_of_ble_eq_true rfl) ?_ ?_ <;> first | (simp only [go_sem, seval, reduceCtorEq, dropF_ch, dropF_cons, dropF_nil, cut, cond_true, cond_false, Int.natCast_zero, Int.natCast_add, Int.natCast_one]; done) | rfl | (simp only [go_sem, seval, reduceCtorEq, dropF_ch, dropF_cons, dropF_nil, cut, cond_true, cond_false, Int.natCast_zero, Int.natCast_add, Int.natCast_one]; rfl) | skip)
  have d2 : ¬ (i : Int) < k := by omega
  obtain rfl : i = k := by omega
  have hprt : fdg smg (fun i => i) (metT L i) = prt i L := rfl
  obtain ⟨R, hR⟩ : ∃ R, R = prt i L := ⟨_, rfl⟩
  rw [← hR] at epl hprt
  have htl := tabN_len (n := i) (r := R)
  simp (disch := omega) only [go_sem, seval, reduceCtorEq, d2, hprt]
  have hz5 : trL (ptsTo i R 0) = [] := rfl
  (refine wpN_lwk (Wk.nilE 11 1 _ _ rfl) ?_; simp only [go_sem, seval, reduceCtorEq])
  refine wpN_lp (i) [false, false, false, false, false, false, false, false, false, false, false, false, true, true, true, true, false, false, false, false, false, false, false, false, false, false, false, false, false, false, false, false, false, false, false, false, false, false, false, false, false, false, false, false, false, false, false, false, false, false, false, false, false, false, false, false, false, false, false, false, false, false, false, false, false, false, false, false, false, false, false, false, false, false, false, false, false, false, false, false, false, false, false, false, false, false, false, false, false, false, false, false, false, false, true, true, true, true, true, true, true, true, true, true, true, true, true, true, true, true, true, true, true, true, true, true, true, true, false] (fun f => [(11, .own 2 0 (ptsTo i R f).length), (93, .d (.int f))]) (fun f => [(2, trL (ptsTo i R f))]) (fun _ => by (simp only [go_sem, seval, reduceCtorEq, dropF_ch, dropF_cons, dropF_nil, cut, cond_true, cond_false]); first | done | rfl) (fun _ => by (simp only [go_sem, seval, reduceCtorEq, cut]); first | done | rfl) (Nat.le_of_ble_eq_true rfl) (by first | (simp only [go_sem, seval, reduceCtorEq, dropF_ch, dropF_cons, dropF_nil, cut, cond_true, cond_false, Int.natCast_zero, Int.natCast_add, Int.natCast_one, hz5]; done) | rfl | (simp only [go_sem, seval, reduceCtorEq, dropF_ch, dropF_cons, dropF_nil, cut, cond_true, cond_false, Int.natCast_zero, Int.natCast_add, Int.natCast_one, hz5]; rfl)) (by first | (simp only [go_sem, seval, reduceCtorEq, dropF_ch, dropF_cons, dropF_nil, cut, cond_true, cond_false, Int.natCast_zero, Int.natCast_add, Int.natCast_one, hz5]; done) | rfl | (simp only [go_sem, seval, reduceCtorEq, dropF_ch, dropF_cons, dropF_nil, cut, cond_true, cond_false, Int.natCast_zero, Int.natCast_add, Int.natCast_one, hz5]; rfl)) fun f hf => ?_
  unfold L1_impl_PartsOf
  have hpl := ptsTo_len i R f
  by_cases hltf : f < i
  · have d3 : (f : Int) < i := by omega
    simp (disch := omega) only [go_sem, seval, reduceCtorEq, d3]
    by_cases hp : 0 < (lstP i R f).length
    · have hz6 : pickTo (fun j => decide (R j = f)) 0 = [] := rfl
      (refine wpN_lwk (Wk.nilE 13 1 _ _ rfl) ?_; simp only [go_sem, seval, reduceCtorEq])
      refine wpN_lp (i) [false, false, false, false, false, false, false, false, false, false, false, false, false, false, true, true, false, false, false, false, false, false, false, false, false, false, false, false, false, false, false, false, false, false, false, false, false, false, false, false, false, false, false, false, false, false, false, false, false, false, false, false, false, false, false, false, false, false, false, false, false, false, false, false, false, false, false, false, false, false, false, false, false, false, false, false, false, false, false, false, false, false, false, false, false, false, false, false, false, false, false, false, false, false, false, false, false, false, false, true, true, true, true, true, true, true, true, true, true, true, true, false, false, false, false, false, false, false, false] (fun j => [(13, .own 3 0 (pickTo (fun j => decide (R j = f)) j).length), (98, .d (.int j))]) (fun j => [(3, iv (pickTo (fun j => decide (R j = f)) j))]) (fun _ => by (simp only [go_sem, seval, reduceCtorEq, dropF_ch, dropF_cons, dropF_nil, cut, cond_true, cond_false]); first | done | rfl) (fun _ => by (simp only [go_sem, seval, reduceCtorEq, cut]); first | done | rfl) (Nat.le_of_ble_eq_true rfl) (by first | (simp only [go_sem, seval, reduceCtorEq, dropF_ch, dropF_cons, dropF_nil, cut, cond_true, cond_false, Int.natCast_zero, Int.natCast_add, Int.natCast_one, hz6, iv_nil]; done) | rfl | (simp only [go_sem, seval, reduceCtorEq, dropF_ch, dropF_cons, dropF_nil, cut, cond_true, cond_false, Int.natCast_zero, Int.natCast_add, Int.natCast_one, hz6, iv_nil]; rfl)) (by first | (simp only [go_sem, seval, reduceCtorEq, dropF_ch, dropF_cons, dropF_nil, cut, cond_true, cond_false, Int.natCast_zero, Int.natCast_add, Int.natCast_one, hz6, iv_nil]; done) | rfl | (simp only [go_sem, seval, reduceCtorEq, dropF_ch, dropF_cons, dropF_nil, cut, cond_true, cond_false, Int.natCast_zero, Int.natCast_add, Int.natCast_one, hz6, iv_nil]; rfl)) fun j hj => ?_
      unfold L0_impl_PartsOf
      have hpk := pickTo_len (fun j => decide (R j = f)) j
      by_cases hltj : j < i
      · have d4 : (j : Int) < i := by omega
        have gj := tabN_get (r := R) hltj
        simp (disch := omega) only [go_sem, seval, reduceCtorEq, d4, gj]
        by_cases c : R j = f
        · have c2 : ((R j : Int) == f) = true := beq_iff_eq.2 (by omega)
          have hy := pickTo_yes (p := fun j => decide (R j = f)) (k := j) (decide_eq_true c)
          simp (disch := omega) only [go_sem, seval, reduceCtorEq, c2]
          (repeat (refine And.intro (by omega) ?_))
          (refine Next.drop [false, false, false, false, false, false, false, false, false, false, false, false, false, false, true, true, false, false, false, false, false, false, false, false, false, false, false, false, false, false, false, false, false, false, false, false, false, false, false, false, false, false, false, false, false, false, false, false, false, false, false, false, false, false, false, false, false, false, false, false, false, false, false, false, false, false, false, false, false, false, false, false, false, false, false, false, false, false, false, false, false, false, false, false, false, false, false, false, false, false, false, false, false, false, false, false, false, false, false, true, true, true, true, true, true, true, true, true, true, true, true, false, false, false, false, false, false, false, false] (by omega) (Nat.le_of_ble_eq_true rfl) ?_ ?_ <;> first | (simp only [go_sem, seval, reduceCtorEq, dropF_ch, dropF_cons, dropF_nil, cut, cond_true, cond_false, Int.natCast_zero, Int.natCast_add, Int.natCast_one, hy, List.length_append]; done) | rfl | (simp only [go_sem, seval, reduceCtorEq, dropF_ch, dropF_cons, dropF_nil, cut, cond_true, cond_false, Int.natCast_zero, Int.natCast_add, Int.natCast_one, hy, List.length_append]; rfl) | skip)
        · have c2 : ((R j : Int) == f) = false := beq_false_of_ne (by omega)
          have hy := pickTo_no (p := fun j => decide (R j = f)) (k := j) (decide_eq_false c)
          simp (disch := omega) only [go_sem, seval, reduceCtorEq, c2]
          (refine Next.drop [false, false, false, false, false, false, false, false, false, false, false, false, false, false, true, true, false, false, false, false, false, false, false, false, false, false, false, false, false, false, false, false, false, false, false, false, false, false, false, false, false, false, false, false, false, false, false, false, false, false, false, false, false, false, false, false, false, false, false, false, false, false, false, false, false, false, false, false, false, false, false, false, false, false, false, false, false, false, false, false, false, false, false, false, false, false, false, false, false, false, false, false, false, false, false, false, false, false, false, true, true, true, true, true, true, true, true, true, true, true, true, false, false, false, false, false, false, false, false] (by omega) (Nat.le_of_ble_eq_true rfl) ?_ ?_ <;> first | (simp only [go_sem, seval, reduceCtorEq, dropF_ch, dropF_cons, dropF_nil, cut, cond_true, cond_false, Int.natCast_zero, Int.natCast_add, Int.natCast_one, hy]; done) | rfl | (simp only [go_sem, seval, reduceCtorEq, dropF_ch, dropF_cons, dropF_nil, cut, cond_true, cond_false, Int.natCast_zero, Int.natCast_add, Int.natCast_one, hy]; rfl) | skip)
      · have d4 : ¬ (j : Int) < i := by omega
        obtain rfl : j = i := by omega
        have hls : pickTo (fun q => decide (R q = f)) j = lstP j R f := rfl
        rw [hls] at hpk
        have hzo : Go.Lift.zeros 1 [AV.nil] = [AV.nil] := rfl
        have hrow : trL (ptsTo j R f) ++ [.tr (.sl (lstP j R f).length (dv (lstP j R f)))] = trL (ptsTo j R (f + 1)) := by rw [ptsTo_yes hp, trL_app]; rfl
        have hlen : (ptsTo j R (f + 1)).length = (ptsTo j R f).length + 1 := by rw [ptsTo_yes hp]; simp
        simp (disch := omega) only [go_sem, seval, reduceCtorEq, d4, hls, hp, hzo, List.length_singleton, List.drop_succ_cons, List.drop_nil, List.take_succ_cons, List.take_zero, Nat.le_refl, if_true, cellsI, Option.map_some]
        (repeat (refine And.intro (by omega) ?_))
        (refine Next.mk (by omega) (Wk.trans (Wk.drG [3] 3 (Nat.le_of_ble_eq_true rfl) (Nat.le_of_ble_eq_true rfl) (of_decide_eq_true rfl) (of_decide_eq_true rfl)) ?_)); (simp only [go_sem, seval, reduceCtorEq, dropG_ch, dropG_cons, dropG_nil, cond_true, cond_false, Int.natCast_zero, Int.natCast_add, Int.natCast_one, hrow, hlen]); (refine Wk.eq (Wk.ad1s [false, false, false, false, false, false, false, false, false, false, false, false, true, true, true, true, false, false, false, false, false, false, false, false, false, false, false, false, false, false, false, false, false, false, false, false, false, false, false, false, false, false, false, false, false, false, false, false, false, false, false, false, false, false, false, false, false, false, false, false, false, false, false, false, false, false, false, false, false, false, false, false, false, false, false, false, false, false, false, false, false, false, false, false, false, false, false, false, false, false, false, false, false, false, true, true, true, true, true, true, true, true, true, true, true, true, true, true, true, true, true, true, true, true, true, true, true, true, false] 2 1 (ptsTo j R f).length true (τ := [_, _, _]) (Nat.le_of_ble_eq_true rfl) rfl (trL_len) rfl (treL_iv _) (by simp only [go_sem, seval, reduceCtorEq])) ?_ ?_ <;> first | (simp only [go_sem, seval, reduceCtorEq, dropF_ch, dropF_cons, dropF_nil, cut, cond_true, cond_false, Int.natCast_zero, Int.natCast_add, Int.natCast_one, hrow, hlen]; done) | rfl | (simp only [go_sem, seval, reduceCtorEq, dropF_ch, dropF_cons, dropF_nil, cut, cond_true, cond_false, Int.natCast_zero, Int.natCast_add, Int.natCast_one, hrow, hlen]; rfl) | skip)
    · have hlf : ∀ j, j < i → R j ≠ f := fun j hj e => hp (lstP_mem hj e)
      refine wpN_lp (i) [false, false, false, false, false, false, false, false, false, false, false, false, false, false, true, true, false, false, false, false, false, false, false, false, false, false, false, false, false, false, false, false, false, false, false, false, false, false, false, false, false, false, false, false, false, false, false, false, false, false, false, false, false, false, false, false, false, false, false, false, false, false, false, false, false, false, false, false, false, false, false, false, false, false, false, false, false, false, false, false, false, false, false, false, false, false, false, false, false, false, false, false, false, false, false, false, false, false, false, true, true, true, true, true, true, true, true, true, true, true, true, false, false, false, false, false, false, false, false] (fun j => [(13, .nil), (98, .d (.int j))]) (fun j => []) (fun _ => by (simp only [go_sem, seval, reduceCtorEq, dropF_ch, dropF_cons, dropF_nil, cut, cond_true, cond_false]); first | done | rfl) (fun _ => by (simp only [go_sem, seval, reduceCtorEq, cut]); first | done | rfl) (Nat.le_of_ble_eq_true rfl) (by first | (simp only [go_sem, seval, reduceCtorEq, dropF_ch, dropF_cons, dropF_nil, cut, cond_true, cond_false, Int.natCast_zero, Int.natCast_add, Int.natCast_one]; done) | rfl | (simp only [go_sem, seval, reduceCtorEq, dropF_ch, dropF_cons, dropF_nil, cut, cond_true, cond_false, Int.natCast_zero, Int.natCast_add, Int.natCast_one]; rfl)) (by first | (simp only [go_sem, seval, reduceCtorEq, dropF_ch, dropF_cons, dropF_nil, cut, cond_true, cond_false, Int.natCast_zero, Int.natCast_add, Int.natCast_one]; done) | rfl | (simp only [go_sem, seval, reduceCtorEq, dropF_ch, dropF_cons, dropF_nil, cut, cond_true, cond_false, Int.natCast_zero, Int.natCast_add, Int.natCast_one]; rfl)) fun j hj => ?_
      unfold L0_impl_PartsOf
      by_cases hltj : j < i
      · have d4 : (j : Int) < i := by omega
        have gj := tabN_get (r := R) hltj
        have c2 : ((R j : Int) == f) = false := beq_false_of_ne (by have := hlf j hltj; omega)
        simp (disch := omega) only [go_sem, seval, reduceCtorEq, d4, gj, c2]
        (refine Next.drop [false, false, false, false, false, false, false, false, false, false, false, false, false, false, true, true, false, false, false, false, false, false, false, false, false, false, false, false, false, false, false, false, false, false, false, false, false, false, false, false, false, false, false, false, false, false, false, false, false, false, false, false, false, false, false, false, false, false, false, false, false, false, false, false, false, false, false, false, false, false, false, false, false, false, false, false, false, false, false, false, false, false, false, false, false, false, false, false, false, false, false, false, false, false, false, false, false, false, false, true, true, true, true, true, true, true, true, true, true, true, true, false, false, false, false, false, false, false, false] (by omega) (Nat.le_of_ble_eq_true rfl) ?_ ?_ <;> first | (simp only [go_sem, seval, reduceCtorEq, dropF_ch, dropF_cons, dropF_nil, cut, cond_true, cond_false, Int.natCast_zero, Int.natCast_add, Int.natCast_one]; done) | rfl | (simp only [go_sem, seval, reduceCtorEq, dropF_ch, dropF_cons, dropF_nil, cut, cond_true, cond_false, Int.natCast_zero, Int.natCast_add, Int.natCast_one]; rfl) | skip)
      · have d4 : ¬ (j : Int) < i := by omega
        obtain rfl : j = i := by omega
        simp (disch := omega) only [go_sem, seval, reduceCtorEq, d4]
        (refine Next.drop [false, false, false, false, false, false, false, false, false, false, false, false, true, true, true, true, false, false, false, false, false, false, false, false, false, false, false, false, false, false, false, false, false, false, false, false, false, false, false, false, false, false, false, false, false, false, false, false, false, false, false, false, false, false, false, false, false, false, false, false, false, false, false, false, false, false, false, false, false, false, false, false, false, false, false, false, false, false, false, false, false, false, false, false, false, false, false, false, false, false, false, false, false, false, true, true, true, true, true, true, true, true, true, true, true, true, true, true, true, true, true, true, true, true, true, true, true, true, false] (by omega) (Nat.le_of_ble_eq_true rfl) ?_ ?_ <;> first | (simp only [go_sem, seval, reduceCtorEq, dropF_ch, dropF_cons, dropF_nil, cut, cond_true, cond_false, Int.natCast_zero, Int.natCast_add, Int.natCast_one, ptsTo_no hp]; done) | rfl | (simp only [go_sem, seval, reduceCtorEq, dropF_ch, dropF_cons, dropF_nil, cut, cond_true, cond_false, Int.natCast_zero, Int.natCast_add, Int.natCast_one, ptsTo_no hp]; rfl) | skip)
  · have d3 : ¬ (f : Int) < i := by omega
    obtain rfl : f = i := by omega
    simp (disch := omega) only [go_sem, seval, reduceCtorEq, d3, epl]
    (refine FnEnd.mk (Nat.le_of_ble_eq_true rfl) rfl (of_decide_eq_true rfl) ?_ ?_ <;> try simp only [go_sem, seval, reduceCtorEq])
theorem iPartsOf_d {N : Net} (h : NSz 1048576 N) : Does Try.prog 59 [netA N] [] (.own 0 0 (partsL N).length) [some ⟨1, true, trL (partsL N)⟩] := by
  cases hok : netOk N
  · have e : partsL N = [] := by simp [partsL, hok]
    rw [e]
    (refine spec_of (by kernel_rfl) Try.func59 k_impl_PartsOf (fnOk (Nat.le_of_ble_eq_true rfl) ?_); unfold C_impl_PartsOf)
    (simp only [Nat.reduceSub, List.length_cons, List.length_nil, Nat.reduceAdd, ch_init1, ch_init2, ch_init3, ch_init4, ch_init5, ch_init6, ch_init7, ch_init8]; try simp only [ch_rep]); (simp only [go_sem, seval, reduceCtorEq, List.replicate])
    (refine ti_call (iNetworkOk_d h) ?_ ?_ ?_; (focus (simp only [go_sem, seval, reduceCtorEq]; done)); (first | rfl | (focus (simp only [go_sem]; done))))
    simp only [go_sem, seval, reduceCtorEq, hok]
    refine FnEnd.wk (Wk.nilE 2 1 _ _ rfl) ?_
    (refine FnEnd.mk (Nat.le_of_ble_eq_true rfl) rfl (of_decide_eq_true rfl) ?_ ?_ <;> try simp only [go_sem, seval, reduceCtorEq])
  · exact iPartsOf_o h hok
set_option maxHeartbeats 800000 in
theorem sPartsOf_t {N : Net} (h : NSz 1048576 N) (hok : netOk N = true) : Does Try.prog 58 [netA N] [] (.own 0 0 (partsL N).length) [some ⟨1, true, trL (partsL N)⟩] := by
  have hnl := h.l
  have h12 := (netOk_iff.1 hok).2.1
  (refine spec_of (by kernel_rfl) Try.func58 k_spec_PartsOf (fnOk (Nat.le_of_ble_eq_true rfl) ?_); unfold C_spec_PartsOf)
  (simp only [Nat.reduceSub, List.length_cons, List.length_nil, Nat.reduceAdd, ch_init1, ch_init2, ch_init3, ch_init4, ch_init5, ch_init6, ch_init7, ch_init8]; try simp only [ch_rep]); (simp only [go_sem, seval, reduceCtorEq, List.replicate])
  (refine ti_call (sNetworkOk_d h) ?_ ?_ ?_; (focus (simp only [go_sem, seval, reduceCtorEq]; done)); (first | rfl | (focus (simp only [go_sem]; done))))
  obtain ⟨m, hm⟩ : ∃ m, m = N.ts.length := ⟨_, rfl⟩
  obtain ⟨L, hL⟩ : ∃ L, L = labF N.ts := ⟨_, rfl⟩
  have epl : partsL N = ptsTo m (prt m L) m := by rw [partsL, if_pos hok, ← hm, ← hL]
  have hz : tabN 0 (fun i => i) = [] := rfl
  simp (disch := omega) only [go_sem, seval, reduceCtorEq, hok, ← hm]
  refine wpN_lp (m) [false, false, false, false, true, false, false, false, false, false, false, false, false, false, false, false, false, false, false, false, true, false, false, false, false, true, true, true, true, true, true, true, false, false, false, false, false, false, false, false, false, false, false, false, false, false, false, false, false, false, false, false, false, false, false, false, false, false, false, false, false, false, false, false, false, false, false, false, false, false, false, false, false, false, false, false, false, false, false, false, false, false, false, false, false, false, false, false, false, false, false, false, false, false, false, false, false, false, false, false, false, false, false, false, false, false, false, false, false, false, false, false, false, false, false, false, false, false, false, false] (fun k => [(3, .own 1 0 k), (24, .d (.int k))]) (fun k => [(1, iv (tabN k fun i => i))]) (fun _ => by (simp only [go_sem, seval, reduceCtorEq, dropF_ch, dropF_cons, dropF_nil, cut, cond_true, cond_false]); first | done | rfl) (fun _ => by (simp only [go_sem, seval, reduceCtorEq, cut]); first | done | rfl) (Nat.le_of_ble_eq_true rfl) (by first | (simp only [go_sem, seval, reduceCtorEq, dropF_ch, dropF_cons, dropF_nil, cut, cond_true, cond_false, Int.natCast_zero, Int.natCast_add, Int.natCast_one, hz, iv_nil]; done) | rfl | (simp only [go_sem, seval, reduceCtorEq, dropF_ch, dropF_cons, dropF_nil, cut, cond_true, cond_false, Int.natCast_zero, Int.natCast_add, Int.natCast_one, hz, iv_nil]; rfl)) (by first | (simp only [go_sem, seval, reduceCtorEq, dropF_ch, dropF_cons, dropF_nil, cut, cond_true, cond_false, Int.natCast_zero, Int.natCast_add, Int.natCast_one, hz, iv_nil]; done) | rfl | (simp only [go_sem, seval, reduceCtorEq, dropF_ch, dropF_cons, dropF_nil, cut, cond_true, cond_false, Int.natCast_zero, Int.natCast_add, Int.natCast_one, hz, iv_nil]; rfl)) fun k hk => ?_
  unfold L5_spec_PartsOf
  have htl := tabN_len (n := k) (r := fun i => i)
  by_cases hlt : k < m
  · have d1 : (k : Int) < m := by omega
    have hs := tabN_snoc (n := k) (r := fun i => i)
    simp (disch := omega) only [go_sem, seval, reduceCtorEq, d1]
    (repeat (refine And.intro (by omega) ?_))
    (refine Next.drop [false, false, false, false, true, false, false, false, false, false, false, false, false, false, false, false, false, false, false, false, true, false, false, false, false, true, true, true, true, true, true, true, false, false, false, false, false, false, false, false, false, false, false, false, false, false, false, false, false, false, false, false, false, false, false, false, false, false, false, false, false, false, false, false, false, false, false, false, false, false, false, false, false, false, false, false, false, false, false, false, false, false, false, false, false, false, false, false, false, false, false, false, false, false, false, false, false, false, false, false, false, false, false, false, false, false, false, false, false, false, false, false, false, false, false, false, false, false, false, false] (by omega) (Nat.le_of_ble_eq_true rfl) ?_ ?_ <;> first | (simp only [go_sem, seval, reduceCtorEq, dropF_ch, dropF_cons, dropF_nil, cut, cond_true, cond_false, Int.natCast_zero, Int.natCast_add, Int.natCast_one, hs]; done) | rfl | (simp only [go_sem, seval, reduceCtorEq, dropF_ch, dropF_cons, dropF_nil, cut, cond_true, cond_false, Int.natCast_zero, Int.natCast_add, Int.natCast_one, hs]; rfl) | skip)
  have d1 : ¬ (k : Int) < m := by omega
  obtain rfl : k = m := by omega
  have hz1 : tabN k (fdg smg (fun i => i) (metT L 0)) = tabN k fun i => i := rfl
  simp (disch := omega) only [go_sem, seval, reduceCtorEq, d1, ← hm]
  refine wpN_lp (k) [false, false, false, false, false, true, true, true, true, true, true, true, false, false, false, false, false, false, false, false, false, false, false, false, false, false, false, false, false, false, false, false, false, false, false, false, true, true, true, true, true, true, true, true, true, true, true, true, true, true, true, true, true, true, true, true, true, true, true, true, true, true, true, true, true, true, true, true, true, true, true, true, true, true, true, true, true, true, true, true, true, true, true, true, true, true, true, true, true, false, false, false, false, false, false, false, false, false, false, false, false, false, false, false, false, false, false, false, false, false, false, false, false, false, false, false, false, false, false, false] (fun i => [(35, .d (.int i))]) (fun i => [(1, iv (tabN k (fdg smg (fun i => i) (metT L i))))]) (fun _ => by (simp only [go_sem, seval, reduceCtorEq, dropF_ch, dropF_cons, dropF_nil, cut, cond_true, cond_false]); first | done | rfl) (fun _ => by (simp only [go_sem, seval, reduceCtorEq, cut]); first | done | rfl) (Nat.le_of_ble_eq_true rfl) (by first | (simp only [go_sem, seval, reduceCtorEq, dropF_ch, dropF_cons, dropF_nil, cut, cond_true, cond_false, Int.natCast_zero, Int.natCast_add, Int.natCast_one, hz1]; done) | rfl | (simp only [go_sem, seval, reduceCtorEq, dropF_ch, dropF_cons, dropF_nil, cut, cond_true, cond_false, Int.natCast_zero, Int.natCast_add, Int.natCast_one, hz1]; rfl)) (by first | (simp only [go_sem, seval, reduceCtorEq, dropF_ch, dropF_cons, dropF_nil, cut, cond_true, cond_false, Int.natCast_zero, Int.natCast_add, Int.natCast_one, hz1]; done) | rfl | (simp only [go_sem, seval, reduceCtorEq, dropF_ch, dropF_cons, dropF_nil, cut, cond_true, cond_false, Int.natCast_zero, Int.natCast_add, Int.natCast_one, hz1]; rfl)) fun i hi => ?_
  unfold L4_spec_PartsOf
  by_cases hlti : i < k
  · have d2 : (i : Int) < k := by omega
    have dle : (i : Int) ≤ k := by omega
    have hiN : i < N.ts.length := by omega
    have g3 := tcs_cut (List.getElem?_eq_getElem hiN)
    have hst := h.t N.ts[i] (List.getElem_mem hiN)
    have hll := hst.l.len
    simp (disch := omega) only [go_sem, seval, reduceCtorEq, d2, g3, dle, ← hm]
    (repeat (refine And.intro (by omega) ?_))
    simp only [true_or, Int.sub_zero, Int.toNat_natCast, go_sem, seval, reduceCtorEq, tcs_taken]
    have hz2 : tabN k (fdg smg (fun i => i) (metQ L i 0)) = tabN k (fdg smg (fun i => i) (metT L i)) := by rw [metQ_zero]
    refine wpN_lp (i) [false, false, false, false, false, false, false, true, true, true, true, true, false, false, false, false, false, false, false, false, false, false, false, false, false, false, false, false, false, false, false, false, false, false, false, false, false, false, false, false, false, false, false, false, false, false, true, true, true, true, true, true, true, true, true, true, true, true, true, true, true, true, true, true, true, true, true, true, true, true, true, true, true, true, true, true, true, true, true, true, true, true, true, true, true, true, true, true, false, false, false, false, false, false, false, false, false, false, false, false, false, false, false, false, false, false, false, false, false, false, false, false, false, false, false, false, false, false, false, false] (fun q => [(45, .d (.int q))]) (fun q => [(1, iv (tabN k (fdg smg (fun i => i) (metQ L i q))))]) (fun _ => by (simp only [go_sem, seval, reduceCtorEq, dropF_ch, dropF_cons, dropF_nil, cut, cond_true, cond_false]); first | done | rfl) (fun _ => by (simp only [go_sem, seval, reduceCtorEq, cut]); first | done | rfl) (Nat.le_of_ble_eq_true rfl) (by first | (simp only [go_sem, seval, reduceCtorEq, dropF_ch, dropF_cons, dropF_nil, cut, cond_true, cond_false, Int.natCast_zero, Int.natCast_add, Int.natCast_one, hz2]; done) | rfl | (simp only [go_sem, seval, reduceCtorEq, dropF_ch, dropF_cons, dropF_nil, cut, cond_true, cond_false, Int.natCast_zero, Int.natCast_add, Int.natCast_one, hz2]; rfl)) (by first | (simp only [go_sem, seval, reduceCtorEq, dropF_ch, dropF_cons, dropF_nil, cut, cond_true, cond_false, Int.natCast_zero, Int.natCast_add, Int.natCast_one, hz2]; done) | rfl | (simp only [go_sem, seval, reduceCtorEq, dropF_ch, dropF_cons, dropF_nil, cut, cond_true, cond_false, Int.natCast_zero, Int.natCast_add, Int.natCast_one, hz2]; rfl)) fun q hq => ?_
    unfold L3_spec_PartsOf
    have htl := tabN_len (n := k) (r := fdg smg (fun i => i) (metQ L i q))
    by_cases hltq : q < i
    · have d3 : (q : Int) < i := by omega
      have hqN : q < N.ts.length := by omega
      have gq3 : ((tcs (N.ts.take i)).drop (q * 3)).take 3 = [ints N.ts[q].labels, ints N.ts[q].dims, ints N.ts[q].data] := tcs_cut (by rw [List.getElem?_take, if_pos hltq]; exact List.getElem?_eq_getElem hqN)
      have hsq := h.t N.ts[q] (List.getElem_mem hqN)
      have htk : (N.ts.take i).length = i := by rw [List.length_take]; omega
      simp (disch := omega) only [go_sem, seval, reduceCtorEq, d3, gq3, htk]
      (repeat (refine And.intro (by omega) ?_))
      (refine ti_call (l13Meet_d (t := N.ts[i]) (u := N.ts[q]) hst.l.len hsq.l.len) ?_ ?_ ?_; (focus (simp only [go_sem, seval, reduceCtorEq]; done)); (first | rfl | (focus (simp only [go_sem]; done))))
      have hse := shr_eq hiN hqN
      rw [← hL] at hse
      rw [hse]
      cases hsh : shr L i q
      · simp (disch := omega) only [go_sem, seval, reduceCtorEq, hsh]
        (refine Next.drop [false, false, false, false, false, false, false, true, true, true, true, true, false, false, false, false, false, false, false, false, false, false, false, false, false, false, false, false, false, false, false, false, false, false, false, false, false, false, false, false, false, false, false, false, false, false, true, true, true, true, true, true, true, true, true, true, true, true, true, true, true, true, true, true, true, true, true, true, true, true, true, true, true, true, true, true, true, true, true, true, true, true, true, true, true, true, true, true, false, false, false, false, false, false, false, false, false, false, false, false, false, false, false, false, false, false, false, false, false, false, false, false, false, false, false, false, false, false, false, false] (by omega) (Nat.le_of_ble_eq_true rfl) ?_ ?_ <;> first | (simp only [go_sem, seval, reduceCtorEq, dropF_ch, dropF_cons, dropF_nil, cut, cond_true, cond_false, Int.natCast_zero, Int.natCast_add, Int.natCast_one, metQ_no hsh]; done) | rfl | (simp only [go_sem, seval, reduceCtorEq, dropF_ch, dropF_cons, dropF_nil, cut, cond_true, cond_false, Int.natCast_zero, Int.natCast_add, Int.natCast_one, metQ_no hsh]; rfl) | skip)
      · obtain ⟨R, hR⟩ : ∃ R, R = fdg smg (fun i => i) (metQ L i q) := ⟨_, rfl⟩
        rw [← hR] at htl ⊢
        have hik : i < k := by omega
        have hqk : q < k := by omega
        have di : (i : Int) < k := by omega
        have dq : (q : Int) < k := by omega
        have ga := tabN_get (r := R) hik
        have gb := tabN_get (r := R) hqk
        have hmx : max (R i : Int) (R q) = ((max (R i) (R q) : Nat) : Int) := by omega
        have hmn : min (R i : Int) (R q) = ((min (R i) (R q) : Nat) : Int) := by omega
        have hz4 : tabN k (part1 R (smg R i q) 0) = tabN k R := part1_zero
        simp (disch := omega) only [go_sem, seval, reduceCtorEq, hsh, di, dq, ga, gb, hmx, hmn]
        (repeat (refine And.intro (by omega) ?_))
        refine wpN_lp (k) [false, false, false, false, false, false, false, false, false, false, false, true, false, false, false, false, false, false, false, false, false, false, false, false, false, false, false, false, false, false, false, false, false, false, false, false, false, false, false, false, false, false, false, false, false, false, false, false, false, false, false, false, false, false, false, false, false, false, false, false, false, false, false, false, false, false, false, false, false, false, false, false, false, false, true, true, true, true, true, true, true, true, true, true, true, true, true, false, false, false, false, false, false, false, false, false, false, false, false, false, false, false, false, false, false, false, false, false, false, false, false, false, false, false, false, false, false, false, false, false] (fun j => [(73, .d (.int j))]) (fun j => [(1, iv (tabN k (part1 R (smg R i q) j)))]) (fun _ => by (simp only [go_sem, seval, reduceCtorEq, dropF_ch, dropF_cons, dropF_nil, cut, cond_true, cond_false]); first | done | rfl) (fun _ => by (simp only [go_sem, seval, reduceCtorEq, cut]); first | done | rfl) (Nat.le_of_ble_eq_true rfl) (by first | (simp only [go_sem, seval, reduceCtorEq, dropF_ch, dropF_cons, dropF_nil, cut, cond_true, cond_false, Int.natCast_zero, Int.natCast_add, Int.natCast_one, hz4]; done) | rfl | (simp only [go_sem, seval, reduceCtorEq, dropF_ch, dropF_cons, dropF_nil, cut, cond_true, cond_false, Int.natCast_zero, Int.natCast_add, Int.natCast_one, hz4]; rfl)) (by first | (simp only [go_sem, seval, reduceCtorEq, dropF_ch, dropF_cons, dropF_nil, cut, cond_true, cond_false, Int.natCast_zero, Int.natCast_add, Int.natCast_one, hz4]; done) | rfl | (simp only [go_sem, seval, reduceCtorEq, dropF_ch, dropF_cons, dropF_nil, cut, cond_true, cond_false, Int.natCast_zero, Int.natCast_add, Int.natCast_one, hz4]; rfl)) fun j hj => ?_
        unfold L2_spec_PartsOf
        have htj := tabN_len (n := k) (r := part1 R (smg R i q) j)
        by_cases hltj : j < k
        · have d4 : (j : Int) < k := by omega
          have gj : (tabN k (part1 R (smg R i q) j))[j]? = some (R j : Int) := by rw [tabN_get hltj, part1_at]
          by_cases c : R j = max (R i) (R q)
          · have c2 : ((R j : Int) == ((max (R i) (R q) : Nat) : Int)) = true := beq_iff_eq.2 (by omega)
            have hs := part1_set (r := R) (s := smg R i q) hltj
            have hme : smg R i q j = min (R i) (R q) := by rw [smg, if_pos c]
            rw [hme] at hs
            simp (disch := omega) only [go_sem, seval, reduceCtorEq, d4, gj, c2]
            (repeat (refine And.intro (by omega) ?_))
            (refine Next.drop [false, false, false, false, false, false, false, false, false, false, false, true, false, false, false, false, false, false, false, false, false, false, false, false, false, false, false, false, false, false, false, false, false, false, false, false, false, false, false, false, false, false, false, false, false, false, false, false, false, false, false, false, false, false, false, false, false, false, false, false, false, false, false, false, false, false, false, false, false, false, false, false, false, false, true, true, true, true, true, true, true, true, true, true, true, true, true, false, false, false, false, false, false, false, false, false, false, false, false, false, false, false, false, false, false, false, false, false, false, false, false, false, false, false, false, false, false, false, false, false] (by omega) (Nat.le_of_ble_eq_true rfl) ?_ ?_ <;> first | (simp only [go_sem, seval, reduceCtorEq, dropF_ch, dropF_cons, dropF_nil, cut, cond_true, cond_false, Int.natCast_zero, Int.natCast_add, Int.natCast_one, hs]; done) | rfl | (simp only [go_sem, seval, reduceCtorEq, dropF_ch, dropF_cons, dropF_nil, cut, cond_true, cond_false, Int.natCast_zero, Int.natCast_add, Int.natCast_one, hs]; rfl) | skip)
          · have c2 : ((R j : Int) == ((max (R i) (R q) : Nat) : Int)) = false := beq_false_of_ne (by omega)
            have hs := part1_keep (n := k) (r := R) (s := smg R i q) (j := j) (by rw [smg, if_neg c])
            simp (disch := omega) only [go_sem, seval, reduceCtorEq, d4, gj, c2]
            (repeat (refine And.intro (by omega) ?_))
            (refine Next.drop [false, false, false, false, false, false, false, false, false, false, false, true, false, false, false, false, false, false, false, false, false, false, false, false, false, false, false, false, false, false, false, false, false, false, false, false, false, false, false, false, false, false, false, false, false, false, false, false, false, false, false, false, false, false, false, false, false, false, false, false, false, false, false, false, false, false, false, false, false, false, false, false, false, false, true, true, true, true, true, true, true, true, true, true, true, true, true, false, false, false, false, false, false, false, false, false, false, false, false, false, false, false, false, false, false, false, false, false, false, false, false, false, false, false, false, false, false, false, false, false] (by omega) (Nat.le_of_ble_eq_true rfl) ?_ ?_ <;> first | (simp only [go_sem, seval, reduceCtorEq, dropF_ch, dropF_cons, dropF_nil, cut, cond_true, cond_false, Int.natCast_zero, Int.natCast_add, Int.natCast_one, hs]; done) | rfl | (simp only [go_sem, seval, reduceCtorEq, dropF_ch, dropF_cons, dropF_nil, cut, cond_true, cond_false, Int.natCast_zero, Int.natCast_add, Int.natCast_one, hs]; rfl) | skip)
        · have d4 : ¬ (j : Int) < k := by omega
          obtain rfl : j = k := by omega
          have hs : tabN j (part1 R (smg R i q) j) = tabN j (fdg smg (fun i => i) (metQ L i (q + 1))) := by rw [part1_all, metQ_yes hsh, fdg_snoc, ← hR]
          simp (disch := omega) only [go_sem, seval, reduceCtorEq, d4, hs]
          (refine Next.drop [false, false, false, false, false, false, false, true, true, true, true, true, false, false, false, false, false, false, false, false, false, false, false, false, false, false, false, false, false, false, false, false, false, false, false, false, false, false, false, false, false, false, false, false, false, false, true, true, true, true, true, true, true, true, true, true, true, true, true, true, true, true, true, true, true, true, true, true, true, true, true, true, true, true, true, true, true, true, true, true, true, true, true, true, true, true, true, true, false, false, false, false, false, false, false, false, false, false, false, false, false, false, false, false, false, false, false, false, false, false, false, false, false, false, false, false, false, false, false, false] (by omega) (Nat.le_of_ble_eq_true rfl) ?_ ?_ <;> first | (simp only [go_sem, seval, reduceCtorEq, dropF_ch, dropF_cons, dropF_nil, cut, cond_true, cond_false, Int.natCast_zero, Int.natCast_add, Int.natCast_one]; done) | rfl | (simp only [go_sem, seval, reduceCtorEq, dropF_ch, dropF_cons, dropF_nil, cut, cond_true, cond_false, Int.natCast_zero, Int.natCast_add, Int.natCast_one]; rfl) | skip)
    · have d3 : ¬ (q : Int) < i := by omega
      obtain rfl : q = i := by omega
      simp (disch := omega) only [go_sem, seval, reduceCtorEq, d3, metQ_end]
      (refine Next.drop [false, false, false, false, false, true, true, true, true, true, true, true, false, false, false, false, false, false, false, false, false, false, false, false, false, false, false, false, false, false, false, false, false, false, false, false, true, true, true, true, true, true, true, true, true, true, true, true, true, true, true, true, true, true, true, true, true, true, true, true, true, true, true, true, true, true, true, true, true, true, true, true, true, true, true, true, true, true, true, true, true, true, true, true, true, true, true, true, true, false, false, false, false, false, false, false, false, false, false, false, false, false, false, false, false, false, false, false, false, false, false, false, false, false, false, false, false, false, false, false] (by omega) (Nat.le_of_ble_eq_true rfl) ?_ ?_ <;> first | (simp only [go_sem, seval, reduceCtorEq, dropF_ch, dropF_cons, dropF_nil, cut, cond_true, cond_false, Int.natCast_zero, Int.natCast_add, Int.natCast_one]; done) | rfl | (simp only [go_sem, seval, reduceCtorEq, dropF_ch, dropF_cons, dropF_nil, cut, cond_true, cond_false, Int.natCast_zero, Int.natCast_add, Int.natCast_one]; rfl) | skip)
  have d2 : ¬ (i : Int) < k := by omega
  obtain rfl : i = k := by omega
  have hprt : fdg smg (fun i => i) (metT L i) = prt i L := rfl
  obtain ⟨R, hR⟩ : ∃ R, R = prt i L := ⟨_, rfl⟩
  rw [← hR] at epl hprt
  have htl := tabN_len (n := i) (r := R)
  simp (disch := omega) only [go_sem, seval, reduceCtorEq, d2, hprt]
  have hz5 : trL (ptsTo i R 0) = [] := rfl
  refine wpN_lp (i) [false, false, false, false, false, false, false, false, false, false, false, false, false, true, true, true, true, false, false, false, false, false, false, false, false, false, false, false, false, false, false, false, false, false, false, false, false, false, false, false, false, false, false, false, false, false, false, false, false, false, false, false, false, false, false, false, false, false, false, false, false, false, false, false, false, false, false, false, false, false, false, false, false, false, false, false, false, false, false, false, false, false, false, false, false, false, false, false, false, true, false, false, false, true, true, true, true, true, true, true, true, true, true, true, true, true, true, true, true, true, true, true, true, true, true, true, true, true, true, false] (fun f => [(12, .own 2 0 (ptsTo i R f).length), (92, .d (.int f))]) (fun f => [(2, trL (ptsTo i R f))]) (fun _ => by (simp only [go_sem, seval, reduceCtorEq, dropF_ch, dropF_cons, dropF_nil, cut, cond_true, cond_false]); first | done | rfl) (fun _ => by (simp only [go_sem, seval, reduceCtorEq, cut]); first | done | rfl) (Nat.le_of_ble_eq_true rfl) (by first | (simp only [go_sem, seval, reduceCtorEq, dropF_ch, dropF_cons, dropF_nil, cut, cond_true, cond_false, Int.natCast_zero, Int.natCast_add, Int.natCast_one, hz5]; done) | rfl | (simp only [go_sem, seval, reduceCtorEq, dropF_ch, dropF_cons, dropF_nil, cut, cond_true, cond_false, Int.natCast_zero, Int.natCast_add, Int.natCast_one, hz5]; rfl)) (by first | (simp only [go_sem, seval, reduceCtorEq, dropF_ch, dropF_cons, dropF_nil, cut, cond_true, cond_false, Int.natCast_zero, Int.natCast_add, Int.natCast_one, hz5]; done) | rfl | (simp only [go_sem, seval, reduceCtorEq, dropF_ch, dropF_cons, dropF_nil, cut, cond_true, cond_false, Int.natCast_zero, Int.natCast_add, Int.natCast_one, hz5]; rfl)) fun f hf => ?_
  unfold L1_spec_PartsOf
  have hpl := ptsTo_len i R f
  by_cases hltf : f < i
  · have d3 : (f : Int) < i := by omega
    simp (disch := omega) only [go_sem, seval, reduceCtorEq, d3]
    (repeat (refine And.intro (by omega) ?_))
    have hz6 : pickTo (fun j => decide (R j = f)) 0 = [] := rfl
    refine wpN_lp (i) [false, false, false, false, false, false, false, false, false, false, false, false, false, false, false, true, true, false, false, false, false, false, false, false, false, false, false, false, false, false, false, false, false, false, false, false, false, false, false, false, false, false, false, false, false, false, false, false, false, false, false, false, false, false, false, false, false, false, false, false, false, false, false, false, false, false, false, false, false, false, false, false, false, false, false, false, false, false, false, false, false, false, false, false, false, false, false, false, false, false, false, false, false, false, false, true, false, false, false, true, true, true, true, true, true, true, true, true, true, true, true, false, false, false, false, false, false, false, false, false] (fun j => [(14, .own 3 0 (pickTo (fun j => decide (R j = f)) j).length), (98, .d (.int j))]) (fun j => [(3, iv (pickTo (fun j => decide (R j = f)) j))]) (fun _ => by (simp only [go_sem, seval, reduceCtorEq, dropF_ch, dropF_cons, dropF_nil, cut, cond_true, cond_false]); first | done | rfl) (fun _ => by (simp only [go_sem, seval, reduceCtorEq, cut]); first | done | rfl) (Nat.le_of_ble_eq_true rfl) (by first | (simp only [go_sem, seval, reduceCtorEq, dropF_ch, dropF_cons, dropF_nil, cut, cond_true, cond_false, Int.natCast_zero, Int.natCast_add, Int.natCast_one, hz6, iv_nil]; done) | rfl | (simp only [go_sem, seval, reduceCtorEq, dropF_ch, dropF_cons, dropF_nil, cut, cond_true, cond_false, Int.natCast_zero, Int.natCast_add, Int.natCast_one, hz6, iv_nil]; rfl)) (by first | (simp only [go_sem, seval, reduceCtorEq, dropF_ch, dropF_cons, dropF_nil, cut, cond_true, cond_false, Int.natCast_zero, Int.natCast_add, Int.natCast_one, hz6, iv_nil]; done) | rfl | (simp only [go_sem, seval, reduceCtorEq, dropF_ch, dropF_cons, dropF_nil, cut, cond_true, cond_false, Int.natCast_zero, Int.natCast_add, Int.natCast_one, hz6, iv_nil]; rfl)) fun j hj => ?_
    unfold L0_spec_PartsOf
    have hpk := pickTo_len (fun j => decide (R j = f)) j
    by_cases hltj : j < i
    · have d4 : (j : Int) < i := by omega
      have gj := tabN_get (r := R) hltj
      simp (disch := omega) only [go_sem, seval, reduceCtorEq, d4, gj]
      by_cases c : R j = f
      · have c2 : ((R j : Int) == f) = true := beq_iff_eq.2 (by omega)
        have hy := pickTo_yes (p := fun j => decide (R j = f)) (k := j) (decide_eq_true c)
        simp (disch := omega) only [go_sem, seval, reduceCtorEq, c2]
        (repeat (refine And.intro (by omega) ?_))
        (refine Next.drop [false, false, false, false, false, false, false, false, false, false, false, false, false, false, false, true, true, false, false, false, false, false, false, false, false, false, false, false, false, false, false, false, false, false, false, false, false, false, false, false, false, false, false, false, false, false, false, false, false, false, false, false, false, false, false, false, false, false, false, false, false, false, false, false, false, false, false, false, false, false, false, false, false, false, false, false, false, false, false, false, false, false, false, false, false, false, false, false, false, false, false, false, false, false, false, true, false, false, false, true, true, true, true, true, true, true, true, true, true, true, true, false, false, false, false, false, false, false, false, false] (by omega) (Nat.le_of_ble_eq_true rfl) ?_ ?_ <;> first | (simp only [go_sem, seval, reduceCtorEq, dropF_ch, dropF_cons, dropF_nil, cut, cond_true, cond_false, Int.natCast_zero, Int.natCast_add, Int.natCast_one, hy, List.length_append]; done) | rfl | (simp only [go_sem, seval, reduceCtorEq, dropF_ch, dropF_cons, dropF_nil, cut, cond_true, cond_false, Int.natCast_zero, Int.natCast_add, Int.natCast_one, hy, List.length_append]; rfl) | skip)
      · have c2 : ((R j : Int) == f) = false := beq_false_of_ne (by omega)
        have hy := pickTo_no (p := fun j => decide (R j = f)) (k := j) (decide_eq_false c)
        simp (disch := omega) only [go_sem, seval, reduceCtorEq, c2]
        (refine Next.drop [false, false, false, false, false, false, false, false, false, false, false, false, false, false, false, true, true, false, false, false, false, false, false, false, false, false, false, false, false, false, false, false, false, false, false, false, false, false, false, false, false, false, false, false, false, false, false, false, false, false, false, false, false, false, false, false, false, false, false, false, false, false, false, false, false, false, false, false, false, false, false, false, false, false, false, false, false, false, false, false, false, false, false, false, false, false, false, false, false, false, false, false, false, false, false, true, false, false, false, true, true, true, true, true, true, true, true, true, true, true, true, false, false, false, false, false, false, false, false, false] (by omega) (Nat.le_of_ble_eq_true rfl) ?_ ?_ <;> first | (simp only [go_sem, seval, reduceCtorEq, dropF_ch, dropF_cons, dropF_nil, cut, cond_true, cond_false, Int.natCast_zero, Int.natCast_add, Int.natCast_one, hy]; done) | rfl | (simp only [go_sem, seval, reduceCtorEq, dropF_ch, dropF_cons, dropF_nil, cut, cond_true, cond_false, Int.natCast_zero, Int.natCast_add, Int.natCast_one, hy]; rfl) | skip)
    · have d4 : ¬ (j : Int) < i := by omega
      obtain rfl : j = i := by omega
      have hls : pickTo (fun q => decide (R q = f)) j = lstP j R f := rfl
      rw [hls] at hpk
      simp (disch := omega) only [go_sem, seval, reduceCtorEq, d4, hls]
      by_cases hp : 0 < (lstP j R f).length
      · have c1 : ((lstP j R f).length : Int) > 0 := by omega
        have hzo : Go.Lift.zeros 1 [AV.nil] = [AV.nil] := rfl
        have hrow : trL (ptsTo j R f) ++ [.tr (.sl (lstP j R f).length (dv (lstP j R f)))] = trL (ptsTo j R (f + 1)) := by rw [ptsTo_yes hp, trL_app]; rfl
        have hlen : (ptsTo j R (f + 1)).length = (ptsTo j R f).length + 1 := by rw [ptsTo_yes hp]; simp
        simp (disch := omega) only [go_sem, seval, reduceCtorEq, c1, hzo, List.length_singleton, List.drop_succ_cons, List.drop_nil, List.take_succ_cons, List.take_zero, Nat.le_refl, if_true, cellsI, Option.map_some]
        (repeat (refine And.intro (by omega) ?_))
        (refine Next.mk (by omega) (Wk.trans (Wk.drG [3] 3 (Nat.le_of_ble_eq_true rfl) (Nat.le_of_ble_eq_true rfl) (of_decide_eq_true rfl) (of_decide_eq_true rfl)) ?_)); (simp only [go_sem, seval, reduceCtorEq, dropG_ch, dropG_cons, dropG_nil, cond_true, cond_false, Int.natCast_zero, Int.natCast_add, Int.natCast_one, hrow, hlen]); (refine Wk.eq (Wk.ad1s [false, false, false, false, false, false, false, false, false, false, false, false, false, true, true, true, true, false, false, false, false, false, false, false, false, false, false, false, false, false, false, false, false, false, false, false, false, false, false, false, false, false, false, false, false, false, false, false, false, false, false, false, false, false, false, false, false, false, false, false, false, false, false, false, false, false, false, false, false, false, false, false, false, false, false, false, false, false, false, false, false, false, false, false, false, false, false, false, false, true, false, false, false, true, true, true, true, true, true, true, true, true, true, true, true, true, true, true, true, true, true, true, true, true, true, true, true, true, true, false] 2 1 (ptsTo j R f).length true (τ := [_, _, _]) (Nat.le_of_ble_eq_true rfl) rfl (trL_len) rfl (treL_iv _) (by simp only [go_sem, seval, reduceCtorEq])) ?_ ?_ <;> first | (simp only [go_sem, seval, reduceCtorEq, dropF_ch, dropF_cons, dropF_nil, cut, cond_true, cond_false, Int.natCast_zero, Int.natCast_add, Int.natCast_one, hrow, hlen]; done) | rfl | (simp only [go_sem, seval, reduceCtorEq, dropF_ch, dropF_cons, dropF_nil, cut, cond_true, cond_false, Int.natCast_zero, Int.natCast_add, Int.natCast_one, hrow, hlen]; rfl) | skip)
      · have c1 : ¬ ((lstP j R f).length : Int) > 0 := by omega
        simp (disch := omega) only [go_sem, seval, reduceCtorEq, c1]
        (refine Next.drop [false, false, false, false, false, false, false, false, false, false, false, false, false, true, true, true, true, false, false, false, false, false, false, false, false, false, false, false, false, false, false, false, false, false, false, false, false, false, false, false, false, false, false, false, false, false, false, false, false, false, false, false, false, false, false, false, false, false, false, false, false, false, false, false, false, false, false, false, false, false, false, false, false, false, false, false, false, false, false, false, false, false, false, false, false, false, false, false, false, true, false, false, false, true, true, true, true, true, true, true, true, true, true, true, true, true, true, true, true, true, true, true, true, true, true, true, true, true, true, false] (by omega) (Nat.le_of_ble_eq_true rfl) ?_ ?_ <;> first | (simp only [go_sem, seval, reduceCtorEq, dropF_ch, dropF_cons, dropF_nil, cut, cond_true, cond_false, Int.natCast_zero, Int.natCast_add, Int.natCast_one, ptsTo_no hp]; done) | rfl | (simp only [go_sem, seval, reduceCtorEq, dropF_ch, dropF_cons, dropF_nil, cut, cond_true, cond_false, Int.natCast_zero, Int.natCast_add, Int.natCast_one, ptsTo_no hp]; rfl) | skip)
  · have d3 : ¬ (f : Int) < i := by omega
    obtain rfl : f = i := by omega
    simp (disch := omega) only [go_sem, seval, reduceCtorEq, d3, epl]
    (refine FnEnd.mk (Nat.le_of_ble_eq_true rfl) rfl (of_decide_eq_true rfl) ?_ ?_ <;> try simp only [go_sem, seval, reduceCtorEq])
theorem sPartsOf_d {N : Net} (h : NSz 1048576 N) : Does Try.prog 58 [netA N] [] (.own 0 0 (partsL N).length) [some ⟨1, true, trL (partsL N)⟩] := by
  cases hok : netOk N
  · have e : partsL N = [] := by simp [partsL, hok]
    rw [e]
    (refine spec_of (by kernel_rfl) Try.func58 k_spec_PartsOf (fnOk (Nat.le_of_ble_eq_true rfl) ?_); unfold C_spec_PartsOf)
    (simp only [Nat.reduceSub, List.length_cons, List.length_nil, Nat.reduceAdd, ch_init1, ch_init2, ch_init3, ch_init4, ch_init5, ch_init6, ch_init7, ch_init8]; try simp only [ch_rep]); (simp only [go_sem, seval, reduceCtorEq, List.replicate])
    (refine ti_call (sNetworkOk_d h) ?_ ?_ ?_; (focus (simp only [go_sem, seval, reduceCtorEq]; done)); (first | rfl | (focus (simp only [go_sem]; done))))
    simp only [go_sem, seval, reduceCtorEq, hok]
    refine FnEnd.wk (Wk.nilE 2 1 _ _ rfl) ?_
    (refine FnEnd.mk (Nat.le_of_ble_eq_true rfl) rfl (of_decide_eq_true rfl) ?_ ?_ <;> try simp only [go_sem, seval, reduceCtorEq])
  · exact sPartsOf_t h hok
theorem ptsTo_sz (m : Nat) (r : Nat → Nat) (hm : m ≤ 12) : ∀ k, k ≤ m → LSz 12 (ptsTo m r k) ∧ totL (ptsTo m r k) ≤ k * 12
  | 0, _ => ⟨⟨by simp [ptsTo], by simp [ptsTo]⟩, by simp [ptsTo, totL]⟩
  | k + 1, hk => by
    obtain ⟨h1, h2⟩ := ptsTo_sz m r hm k (by omega)
    have hl := ptsTo_len m r (k + 1)
    have hll : (lstP m r k).length ≤ m := pickTo_len _ _
    refine ⟨⟨by omega, fun b hb => ?_⟩, ?_⟩
    · rw [ptsTo] at hb
      split at hb
      · rcases List.mem_append.1 hb with hb | hb
        · exact h1.e b hb
        · simp only [List.mem_singleton] at hb
          subst hb
          refine ⟨by omega, fun x hx => ?_⟩
          obtain ⟨i, hi, _, rfl⟩ := pickTo_mem hx
          exact ⟨by omega, by omega⟩
      · exact h1.e b hb
    · rw [ptsTo]
      split
      · rw [totL_app]; simp only [totL]; omega
      · omega
theorem parts_sz {N : Net} : LSz 1048576 (partsL N) ∧ totL (partsL N) ≤ 144 := by
  unfold partsL
  split
  · rename_i hok
    have h12 := (netOk_iff.1 hok).2.1
    obtain ⟨h1, h2⟩ := ptsTo_sz N.ts.length (prt N.ts.length (labF N.ts)) h12 _ (Nat.le_refl _)
    refine ⟨⟨by have := h1.l; omega, fun b hb => ⟨by have := (h1.e b hb).len; omega, (h1.e b hb).wf⟩⟩, by omega⟩
  · exact ⟨⟨by simp, by simp⟩, by simp [totL]⟩
end Go.Proofs.Ytjoopfojiiklnaa
