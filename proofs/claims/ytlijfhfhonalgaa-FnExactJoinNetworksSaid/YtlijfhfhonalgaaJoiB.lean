/-
  Contracts: networks joined. No condition.
-/
import Derived.Test.YtlijfhfhonalgaaMgJoinNetworksA
import Derived.Test.YtlijfhfhonalgaaJoiA
import Derived.Test.YtlijfhfhonalgaaNetE
import Derived.Test.YtlijfhfhonalgaaNetD
namespace Go.Proofs.Ytlijfhfhonalgaa
open Go.RowKit Go.Lift Plain
set_option linter.unusedSimpArgs false
set_option linter.unusedVariables false
set_option maxRecDepth 100000

def sharB (M N : Net) (x : Int) : Bool := decide (dimN N.ts x = 0) || (has M.os x && has N.os x)
noncomputable def nJoinOk (M N : Net) : Bool := netOk M && netOk N && decide ([M.k, M.p, M.n] = [N.k, N.p, N.n]) && (pickTo (labP M.ts) 100).all (sharB M N)
def nJoin (M N : Net) (o : List Int) : Net := ⟨M.k, M.p, M.n, M.ts ++ N.ts, o⟩
noncomputable def nJoinB (M N : Net) (o : List Int) : Bool := nJoinOk M N && netOk (nJoin M N o)
noncomputable def nJoinN (M N : Net) (o : List Int) : Net := bif nJoinB M N o then nJoin M N o else zeroN
theorem nJoin_sz {M N : Net} {o : List Int} (h : NSz 1048576 M) (h' : NSz 1048576 N) (ho : Sz 1048576 o) (hl : M.ts.length + N.ts.length ≤ 1048576) : NSz 1048576 (nJoin M N o) :=
  ⟨h.k, h.p, h.n, by simp only [nJoin, List.length_append]; exact hl, fun t ht => by
    rcases List.mem_append.1 ht with ht | ht
    · exact h.t t ht
    · exact h'.t t ht, ho⟩
theorem join12 {N : Net} (h : netOk N = true) : N.ts.length ≤ 12 := (netOk_iff.1 h).2.1
theorem nJoinN_sz {M N : Net} {o : List Int} (h : NSz 1048576 M) (h' : NSz 1048576 N) (ho : Sz 1048576 o) : NSz 1048576 (nJoinN M N o) := by
  unfold nJoinN
  cases e : nJoinB M N o
  · exact zeroN_sz
  · simp only [nJoinB, nJoinOk, Bool.and_eq_true, decide_eq_true_eq] at e
    have h1 := join12 e.1.1.1.1
    have h2 := join12 e.1.1.1.2
    exact nJoin_sz h h' ho (by omega)
theorem nJoinN_tot {M N : Net} {o : List Int} (h : NSz 1048576 M) (h' : NSz 1048576 N) : totT (nJoinN M N o).ts ≤ totT M.ts + totT N.ts := by
  unfold nJoinN
  cases e : nJoinB M N o
  · simp [zeroN, totT]
  · simp only [cond_true, nJoin]
    have : ∀ a b : List Ten, totT (a ++ b) = totT a + totT b := by
      intro a b
      induction a with
      | nil => simp [totT]
      | cons t l ih => simp only [List.cons_append, totT, ih]; omega
    rw [this]
    exact Nat.le_refl _
theorem joinLab {ts : List Ten} : (pickTo (labP ts) 100).length ≤ 100 := pickTo_len _ _
theorem iLabelsOf_j {N : Net} (h : NSz 1048576 N) : Does Try.prog 63 [netA N] [] (.d (ints (labelsL N))) [] := (iLabelsOf_d h).fzI
theorem l12Labels_j {ts : List Ten} (h : ts.length ≤ 1048576) (ht : ∀ t ∈ ts, TSz 1048576 t) (hax : axOks ts) : Does Try.prog 59 [.d (tens ts)] [] (.d (ints (pickTo (labP ts) 100))) [] := (l12Labels_d h ht hax).fzI
theorem copyNetwork_s {N : Net} (h : NSz 1048576 N) : Does Try.prog 65 [netA N] [] (ownN 0 N) (stoNS N) := does_splitN (copyNetwork_d h)
theorem l14Copy_s {N : Net} (h : NSz 1048576 N) : Does Try.prog 61 [netA N] [] (ownN 0 N) (stoNS N) := does_splitN (l14Copy_d h)
theorem shar_next {M N : Net} {L : List Int} {k : Nat} (hk : k < L.length) (h : sharB M N L[k] = true) (hi : ∀ j (hj : j < L.length), j < k → sharB M N L[j] = true) : ∀ j (hj : j < L.length), j < k + 1 → sharB M N L[j] = true := fun j hj hjk => by
  by_cases e : j = k
  · subst e; exact h
  · exact hi j hj (by omega)
theorem shar_all {M N : Net} {L : List Int} (hi : ∀ j (hj : j < L.length), sharB M N L[j] = true) : L.all (sharB M N) = true := List.all_eq_true.2 fun x hx => by
  obtain ⟨j, hj, rfl⟩ := List.mem_iff_getElem.1 hx
  exact hi j hj
theorem shar_no {M N : Net} {L : List Int} {k : Nat} (hk : k < L.length) (h : sharB M N L[k] = false) : L.all (sharB M N) = false := by
  cases e : L.all (sharB M N)
  · rfl
  · rw [List.all_eq_true.1 e _ (List.getElem_mem hk)] at h
    cases h
set_option maxHeartbeats 800000 in
theorem iJoinNetworks_d {M N : Net} {o : List Int} (h : NSz 1048576 M) (h' : NSz 1048576 N) (ho : Sz 1048576 o) :
    Does Try.prog 29 [netA M, netA N, .d (ints o)] [] (.tup [ownN 0 (nJoinN M N o), .d (.bool (nJoinB M N o))]) (stoN (nJoinN M N o)) := by
  have no : nJoinOk M N = false → nJoinB M N o = false ∧ nJoinN M N o = zeroN := fun e => by
    have e1 : nJoinB M N o = false := by simp [nJoinB, e]
    exact ⟨e1, by simp [nJoinN, e1]⟩
  (refine spec_of (by kernel_rfl) Try.func29 k_impl_JoinNetworks (fnOk (Nat.le_of_ble_eq_true rfl) ?_); unfold C_impl_JoinNetworks)
  (simp only [Nat.reduceSub, List.length_cons, List.length_nil, Nat.reduceAdd, ch_init1, ch_init2, ch_init3, ch_init4, ch_init5, ch_init6, ch_init7, ch_init8]; try simp only [ch_rep]); (simp only [go_sem, seval, reduceCtorEq, List.replicate])
  (refine ti_call (iNetworkOk_d h) ?_ ?_ ?_; (focus (simp only [go_sem, seval, reduceCtorEq]; done)); (first | rfl | (focus (simp only [go_sem]; done))))
  cases h1 : netOk M
  · have e0 := no (by simp [nJoinOk, h1])
    have e := e0.1
    have e2 := e0.2
    simp only [go_sem, seval, reduceCtorEq, h1, e, e2]
    refine FnEnd.wk (Wk.trans (Wk.nilS 2 3 3 _ _ _ rfl rfl) (Wk.nilS 2 4 1 _ _ _ rfl rfl)) ?_
    (refine FnEnd.mk (Nat.le_of_ble_eq_true rfl) rfl (of_decide_eq_true rfl) ?_ ?_ <;> try simp only [go_sem, seval, reduceCtorEq])
  simp only [go_sem, seval, reduceCtorEq, h1]
  (refine ti_call (iNetworkOk_d h') ?_ ?_ ?_; (focus (simp only [go_sem, seval, reduceCtorEq]; done)); (first | rfl | (focus (simp only [go_sem]; done))))
  cases h2 : netOk N
  · have e0 := no (by simp [nJoinOk, h2])
    have e := e0.1
    have e2 := e0.2
    simp only [go_sem, seval, reduceCtorEq, h2, e, e2]
    refine FnEnd.wk (Wk.trans (Wk.nilS 2 3 3 _ _ _ rfl rfl) (Wk.nilS 2 4 1 _ _ _ rfl rfl)) ?_
    (refine FnEnd.mk (Nat.le_of_ble_eq_true rfl) rfl (of_decide_eq_true rfl) ?_ ?_ <;> try simp only [go_sem, seval, reduceCtorEq])
  simp only [go_sem, seval, reduceCtorEq, h2]
  by_cases h3 : [M.k, M.p, M.n] = [N.k, N.p, N.n]
  rotate_left
  · have e0 := no (by simp only [nJoinOk, decide_eq_false h3, Bool.and_false, Bool.false_and])
    have e := e0.1
    have e2 := e0.2
    have c := decide_eq_false h3
    simp only [go_sem, seval, reduceCtorEq, c, e, e2]
    refine FnEnd.wk (Wk.trans (Wk.nilS 2 3 3 _ _ _ rfl rfl) (Wk.nilS 2 4 1 _ _ _ rfl rfl)) ?_
    (refine FnEnd.mk (Nat.le_of_ble_eq_true rfl) rfl (of_decide_eq_true rfl) ?_ ?_ <;> try simp only [go_sem, seval, reduceCtorEq])
  have c := decide_eq_true h3
  simp only [go_sem, seval, reduceCtorEq, c]
  have hll : labelsL M = pickTo (labP M.ts) 100 := by simp [labelsL, h1]
  have hax := netOk_ax h2
  have hl12 := join12 h1
  have hl12' := join12 h2
  (refine ti_call (iLabelsOf_j h) ?_ ?_ ?_; (focus (simp only [go_sem, seval, reduceCtorEq]; done)); (first | rfl | (focus (simp only [go_sem]; done))))
  simp only [hll]
  obtain ⟨L, hL⟩ : ∃ L, L = pickTo (labP M.ts) 100 := ⟨_, rfl⟩
  have hLl : L.length ≤ 100 := by rw [hL]; exact joinLab
  have eok : nJoinOk M N = L.all (sharB M N) := by simp only [nJoinOk, h1, h2, c, ← hL, Bool.true_and]
  simp only [← hL, go_sem, seval, reduceCtorEq]
  have hI0 : ∀ j (hj : j < L.length), j < 0 → sharB M N L[j] = true := fun j _ hj => absurd hj (Nat.not_lt_zero j)
  have hMo : M.os.length ≤ 1099511627776 := h.o.up.len
  have hNo : N.os.length ≤ 1099511627776 := h'.o.up.len
  refine wpN_lpI (L.length) [false, false, false, false, false, false, false, true, false, true, false, false, false, false, false, false, false, false, false, false, false, false, false, false, false, false, false, false, false, false, false, true, true, true, true, true, true, true, true, true, true, true, true, true, true, true, true, true, true, true, true, true, true, false, false, false, false, false, false, false, false, false, false, false, false, false, false, false, false, false] (fun k => ∀ j (hj : j < L.length), j < k → sharB M N L[j] = true) (fun k => [(30, .d (.int k))]) (fun k => []) (fun _ => by (simp only [go_sem, seval, reduceCtorEq, dropF_ch, dropF_cons, dropF_nil, cut, cond_true, cond_false]); first | done | rfl) (fun _ => by (simp only [go_sem, seval, reduceCtorEq, cut]); first | done | rfl) (hI0) (Nat.le_of_ble_eq_true rfl) (by first | (simp only [go_sem, seval, reduceCtorEq, dropF_ch, dropF_cons, dropF_nil, cut, cond_true, cond_false, Int.natCast_zero, Int.natCast_add, Int.natCast_one]; done) | rfl | (simp only [go_sem, seval, reduceCtorEq, dropF_ch, dropF_cons, dropF_nil, cut, cond_true, cond_false, Int.natCast_zero, Int.natCast_add, Int.natCast_one]; rfl)) (by first | (simp only [go_sem, seval, reduceCtorEq, dropF_ch, dropF_cons, dropF_nil, cut, cond_true, cond_false, Int.natCast_zero, Int.natCast_add, Int.natCast_one]; done) | rfl | (simp only [go_sem, seval, reduceCtorEq, dropF_ch, dropF_cons, dropF_nil, cut, cond_true, cond_false, Int.natCast_zero, Int.natCast_add, Int.natCast_one]; rfl)) fun k hk hi => ?_
  unfold L0_impl_JoinNetworks
  by_cases hlt : k < L.length
  · have d1 : (k : Int) < L.length := by omega
    have g : L[k]? = some L[k] := List.getElem?_eq_getElem hlt
    simp (disch := omega) only [go_sem, seval, reduceCtorEq, d1, g]
    (refine ti_call (iDimOf_d (x := L[k]) h') ?_ ?_ ?_; (focus (simp only [go_sem, seval, reduceCtorEq, netDim_yes h2]; done)); (first | rfl | (focus (simp only [go_sem]; done))))
    simp only [netDim_yes h2]
    by_cases h4 : dimN N.ts L[k] = 0
    · have hI := shar_next (M := M) (N := N) hlt (by simp [sharB, h4]) hi
      simp (disch := omega) only [go_sem, seval, reduceCtorEq, h4]
      (refine NextI.drop [false, false, false, false, false, false, false, true, false, true, false, false, false, false, false, false, false, false, false, false, false, false, false, false, false, false, false, false, false, false, false, true, true, true, true, true, true, true, true, true, true, true, true, true, true, true, true, true, true, true, true, true, true, false, false, false, false, false, false, false, false, false, false, false, false, false, false, false, false, false] (by omega) (hI) (Nat.le_of_ble_eq_true rfl) ?_ ?_ <;> first | (simp only [go_sem, seval, reduceCtorEq, dropF_ch, dropF_cons, dropF_nil, cut, cond_true, cond_false, Int.natCast_zero, Int.natCast_add, Int.natCast_one]; done) | rfl | (simp only [go_sem, seval, reduceCtorEq, dropF_ch, dropF_cons, dropF_nil, cut, cond_true, cond_false, Int.natCast_zero, Int.natCast_add, Int.natCast_one]; rfl) | skip)
    have c4 : (dimN N.ts L[k] != 0) = true := by simpa using h4
    simp only [go_sem, seval, reduceCtorEq, c4]
    (refine ti_call (hasInt_d (xs := M.os) (x := L[k]) hMo) ?_ ?_ ?_; (focus (simp only [go_sem, seval, reduceCtorEq]; done)); (first | rfl | (focus (simp only [go_sem]; done))))
    cases h5 : has M.os L[k]
    · have e0 := no (by rw [eok]; exact shar_no hlt (by simp [sharB, h4, h5]))
      have e := e0.1
      have e2 := e0.2
      simp only [go_sem, seval, reduceCtorEq, h5, e, e2]
      refine FnEnd.wk (Wk.trans (Wk.nilS 2 3 3 _ _ _ rfl rfl) (Wk.nilS 2 4 1 _ _ _ rfl rfl)) ?_
      (refine FnEnd.mk (Nat.le_of_ble_eq_true rfl) rfl (of_decide_eq_true rfl) ?_ ?_ <;> try simp only [go_sem, seval, reduceCtorEq])
    simp only [go_sem, seval, reduceCtorEq, h5]
    (refine ti_call (hasInt_d (xs := N.os) (x := L[k]) hNo) ?_ ?_ ?_; (focus (simp only [go_sem, seval, reduceCtorEq]; done)); (first | rfl | (focus (simp only [go_sem]; done))))
    cases h6 : has N.os L[k]
    · have e0 := no (by rw [eok]; exact shar_no hlt (by simp [sharB, h4, h6]))
      have e := e0.1
      have e2 := e0.2
      simp only [go_sem, seval, reduceCtorEq, h6, e, e2]
      refine FnEnd.wk (Wk.trans (Wk.nilS 2 3 3 _ _ _ rfl rfl) (Wk.nilS 2 4 1 _ _ _ rfl rfl)) ?_
      (refine FnEnd.mk (Nat.le_of_ble_eq_true rfl) rfl (of_decide_eq_true rfl) ?_ ?_ <;> try simp only [go_sem, seval, reduceCtorEq])
    have hI := shar_next (M := M) (N := N) hlt (by simp [sharB, h5, h6]) hi
    simp (disch := omega) only [go_sem, seval, reduceCtorEq, h6]
    (refine NextI.drop [false, false, false, false, false, false, false, true, false, true, false, false, false, false, false, false, false, false, false, false, false, false, false, false, false, false, false, false, false, false, false, true, true, true, true, true, true, true, true, true, true, true, true, true, true, true, true, true, true, true, true, true, true, false, false, false, false, false, false, false, false, false, false, false, false, false, false, false, false, false] (by omega) (hI) (Nat.le_of_ble_eq_true rfl) ?_ ?_ <;> first | (simp only [go_sem, seval, reduceCtorEq, dropF_ch, dropF_cons, dropF_nil, cut, cond_true, cond_false, Int.natCast_zero, Int.natCast_add, Int.natCast_one]; done) | rfl | (simp only [go_sem, seval, reduceCtorEq, dropF_ch, dropF_cons, dropF_nil, cut, cond_true, cond_false, Int.natCast_zero, Int.natCast_add, Int.natCast_one]; rfl) | skip)
  have d1 : ¬ (k : Int) < L.length := by omega
  have hok : nJoinOk M N = true := by rw [eok]; exact shar_all fun j hj => hi j hj (by omega)
  simp (disch := omega) only [go_sem, seval, reduceCtorEq, d1]
  (refine ti_call (copyNetwork_d h) ?_ ?_ ?_; (focus (simp only [go_sem, seval, reduceCtorEq]; done)); (first | rfl | (focus (simp only [go_sem]; done))))
  simp only [go_sem, seval, reduceCtorEq]
  (refine gi_call (copyNetwork_s h') ?_ ?_ ?_; (focus (simp only [go_sem, seval, reduceCtorEq]; done)); (first | rfl | (focus (simp only [go_sem]; done))))
  have hfl := flT_len (ts := N.ts)
  have hle : N.ts.length * 3 ≤ (flT N.ts).length := by omega
  simp (disch := omega) only [go_sem, seval, reduceCtorEq, ownN, stoNS, shS_cons, ownS_take, rnL_ownS_fg, rootS_rn, if_pos hle]
  refine ⟨by omega, ?_⟩
  refine GH.mk (wk_merge (m := 8) 6 3 3 true (τ := [_, _, _, _, _, _, _, _]) (A := tcA M.ts) (l := flT N.ts) (Nat.le_of_ble_eq_true rfl) (Nat.le_of_ble_eq_true rfl) rfl rfl) ?_
  simp only [go_sem, seval, reduceCtorEq, dropF_ch, dropF_cons, dropF_nil, cut, cond_true, cond_false, Int.natCast_zero, Int.natCast_add, Int.natCast_one, ← tcA_trS, ← tcA_app, rnL_tcA]
  (refine ti_call (copyInts_d (xs := o) ho.up.len) ?_ ?_ ?_; (focus (simp only [go_sem, seval, reduceCtorEq]; done)); (first | rfl | (focus (simp only [go_sem]; done))))
  have hln : (M.ts ++ N.ts).length = M.ts.length + N.ts.length := by simp
  simp only [go_sem, seval, reduceCtorEq]
  rw [← hln]
  (refine ti_call (iNetworkOk_d (nJoin_sz h h' ho (by omega))) ?_ ?_ ?_; (focus (simp only [go_sem, seval, reduceCtorEq, nJoin]; done)); (first | rfl | (focus (simp only [go_sem]; done))))
  cases h7 : netOk (nJoin M N o)
  · have e : nJoinB M N o = false := by simp [nJoinB, h7]
    simp only [go_sem, seval, reduceCtorEq, h7, e, nJoinN, cond_false]
    refine FnEnd.wk (Wk.trans (Wk.nilS 2 3 3 _ _ _ rfl rfl) (Wk.nilS 2 4 1 _ _ _ rfl rfl)) ?_
    (refine FnEnd.mk (Nat.le_of_ble_eq_true rfl) rfl (of_decide_eq_true rfl) ?_ ?_ <;> try simp only [go_sem, seval, reduceCtorEq])
  have e : nJoinB M N o = true := by simp [nJoinB, hok, h7]
  simp only [go_sem, seval, reduceCtorEq, h7, e, nJoinN, cond_true, nJoin]
  (refine FnEnd.mk (Nat.le_of_ble_eq_true rfl) rfl (of_decide_eq_true rfl) ?_ ?_ <;> try simp only [go_sem, seval, reduceCtorEq])
set_option maxHeartbeats 800000 in
theorem sJoinNetworks_d {M N : Net} {o : List Int} (h : NSz 1048576 M) (h' : NSz 1048576 N) (ho : Sz 1048576 o) :
    Does Try.prog 27 [netA M, netA N, .d (ints o)] [] (.tup [ownN 0 (nJoinN M N o), .d (.bool (nJoinB M N o))]) (stoN (nJoinN M N o)) := by
  have no : nJoinOk M N = false → nJoinB M N o = false ∧ nJoinN M N o = zeroN := fun e => by
    have e1 : nJoinB M N o = false := by simp [nJoinB, e]
    exact ⟨e1, by simp [nJoinN, e1]⟩
  (refine spec_of (by kernel_rfl) Try.func27 k_spec_JoinNetworks (fnOk (Nat.le_of_ble_eq_true rfl) ?_); unfold C_spec_JoinNetworks)
  (simp only [Nat.reduceSub, List.length_cons, List.length_nil, Nat.reduceAdd, ch_init1, ch_init2, ch_init3, ch_init4, ch_init5, ch_init6, ch_init7, ch_init8]; try simp only [ch_rep]); (simp only [go_sem, seval, reduceCtorEq, List.replicate])
  (refine ti_call (sNetworkOk_d h) ?_ ?_ ?_; (focus (simp only [go_sem, seval, reduceCtorEq]; done)); (first | rfl | (focus (simp only [go_sem]; done))))
  cases h1 : netOk M
  · have e0 := no (by simp [nJoinOk, h1])
    have e := e0.1
    have e2 := e0.2
    simp only [go_sem, seval, reduceCtorEq, h1, e, e2]
    refine FnEnd.wk (Wk.trans (Wk.nilS 2 3 3 _ _ _ rfl rfl) (Wk.nilS 2 4 1 _ _ _ rfl rfl)) ?_
    (refine FnEnd.mk (Nat.le_of_ble_eq_true rfl) rfl (of_decide_eq_true rfl) ?_ ?_ <;> try simp only [go_sem, seval, reduceCtorEq])
  simp only [go_sem, seval, reduceCtorEq, h1]
  (refine ti_call (sNetworkOk_d h') ?_ ?_ ?_; (focus (simp only [go_sem, seval, reduceCtorEq]; done)); (first | rfl | (focus (simp only [go_sem]; done))))
  cases h2 : netOk N
  · have e0 := no (by simp [nJoinOk, h2])
    have e := e0.1
    have e2 := e0.2
    simp only [go_sem, seval, reduceCtorEq, h2, e, e2]
    refine FnEnd.wk (Wk.trans (Wk.nilS 2 3 3 _ _ _ rfl rfl) (Wk.nilS 2 4 1 _ _ _ rfl rfl)) ?_
    (refine FnEnd.mk (Nat.le_of_ble_eq_true rfl) rfl (of_decide_eq_true rfl) ?_ ?_ <;> try simp only [go_sem, seval, reduceCtorEq])
  simp only [go_sem, seval, reduceCtorEq, h2]
  by_cases h3 : [M.k, M.p, M.n] = [N.k, N.p, N.n]
  rotate_left
  · have e0 := no (by simp only [nJoinOk, decide_eq_false h3, Bool.and_false, Bool.false_and])
    have e := e0.1
    have e2 := e0.2
    have c := decide_eq_false h3
    simp only [go_sem, seval, reduceCtorEq, c, e, e2]
    refine FnEnd.wk (Wk.trans (Wk.nilS 2 3 3 _ _ _ rfl rfl) (Wk.nilS 2 4 1 _ _ _ rfl rfl)) ?_
    (refine FnEnd.mk (Nat.le_of_ble_eq_true rfl) rfl (of_decide_eq_true rfl) ?_ ?_ <;> try simp only [go_sem, seval, reduceCtorEq])
  have c := decide_eq_true h3
  simp only [go_sem, seval, reduceCtorEq, c]
  have hll : labelsL M = pickTo (labP M.ts) 100 := by simp [labelsL, h1]
  have hax := netOk_ax h2
  have hl12 := join12 h1
  have hl12' := join12 h2
  (refine ti_call (l12Labels_j h.l h.t (netOk_ax h1)) ?_ ?_ ?_; (focus (simp only [go_sem, seval, reduceCtorEq]; done)); (first | rfl | (focus (simp only [go_sem]; done))))
  obtain ⟨L, hL⟩ : ∃ L, L = pickTo (labP M.ts) 100 := ⟨_, rfl⟩
  have hLl : L.length ≤ 100 := by rw [hL]; exact joinLab
  have eok : nJoinOk M N = L.all (sharB M N) := by simp only [nJoinOk, h1, h2, c, ← hL, Bool.true_and]
  simp only [← hL, go_sem, seval, reduceCtorEq]
  have hI0 : ∀ j (hj : j < L.length), j < 0 → sharB M N L[j] = true := fun j _ hj => absurd hj (Nat.not_lt_zero j)
  have hMo : M.os.length ≤ 1099511627776 := h.o.up.len
  have hNo : N.os.length ≤ 1099511627776 := h'.o.up.len
  refine wpN_lpI (L.length) [false, false, false, false, false, false, false, true, false, true, false, false, false, false, false, false, false, false, false, false, false, false, false, false, false, false, false, false, false, false, false, false, true, true, true, true, true, true, true, true, true, true, true, true, true, true, true, true, true, true, true, true, true, true, true, true, false, false, false, false, false, false, false, false, false, false, false, false, false, false, false, false, false] (fun k => ∀ j (hj : j < L.length), j < k → sharB M N L[j] = true) (fun k => [(31, .d (.int k))]) (fun k => []) (fun _ => by (simp only [go_sem, seval, reduceCtorEq, dropF_ch, dropF_cons, dropF_nil, cut, cond_true, cond_false]); first | done | rfl) (fun _ => by (simp only [go_sem, seval, reduceCtorEq, cut]); first | done | rfl) (hI0) (Nat.le_of_ble_eq_true rfl) (by first | (simp only [go_sem, seval, reduceCtorEq, dropF_ch, dropF_cons, dropF_nil, cut, cond_true, cond_false, Int.natCast_zero, Int.natCast_add, Int.natCast_one]; done) | rfl | (simp only [go_sem, seval, reduceCtorEq, dropF_ch, dropF_cons, dropF_nil, cut, cond_true, cond_false, Int.natCast_zero, Int.natCast_add, Int.natCast_one]; rfl)) (by first | (simp only [go_sem, seval, reduceCtorEq, dropF_ch, dropF_cons, dropF_nil, cut, cond_true, cond_false, Int.natCast_zero, Int.natCast_add, Int.natCast_one]; done) | rfl | (simp only [go_sem, seval, reduceCtorEq, dropF_ch, dropF_cons, dropF_nil, cut, cond_true, cond_false, Int.natCast_zero, Int.natCast_add, Int.natCast_one]; rfl)) fun k hk hi => ?_
  unfold L0_spec_JoinNetworks
  by_cases hlt : k < L.length
  · have d1 : (k : Int) < L.length := by omega
    have g : L[k]? = some L[k] := List.getElem?_eq_getElem hlt
    simp (disch := omega) only [go_sem, seval, reduceCtorEq, d1, g]
    (refine ti_call (l12Dim_d (x := L[k]) h'.l h'.t hax) ?_ ?_ ?_; (focus (simp only [go_sem, seval, reduceCtorEq]; done)); (first | rfl | (focus (simp only [go_sem]; done))))
    have hd0 := dimN_bd hax L[k]
    by_cases h4 : dimN N.ts L[k] = 0
    · have hI := shar_next (M := M) (N := N) hlt (by simp [sharB, h4]) hi
      simp (disch := omega) only [go_sem, seval, reduceCtorEq, h4]
      (refine NextI.drop [false, false, false, false, false, false, false, true, false, true, false, false, false, false, false, false, false, false, false, false, false, false, false, false, false, false, false, false, false, false, false, false, true, true, true, true, true, true, true, true, true, true, true, true, true, true, true, true, true, true, true, true, true, true, true, true, false, false, false, false, false, false, false, false, false, false, false, false, false, false, false, false, false] (by omega) (hI) (Nat.le_of_ble_eq_true rfl) ?_ ?_ <;> first | (simp only [go_sem, seval, reduceCtorEq, dropF_ch, dropF_cons, dropF_nil, cut, cond_true, cond_false, Int.natCast_zero, Int.natCast_add, Int.natCast_one]; done) | rfl | (simp only [go_sem, seval, reduceCtorEq, dropF_ch, dropF_cons, dropF_nil, cut, cond_true, cond_false, Int.natCast_zero, Int.natCast_add, Int.natCast_one]; rfl) | skip)
    have c4 : dimN N.ts L[k] > 0 := by omega
    simp only [go_sem, seval, reduceCtorEq, c4]
    (refine ti_call (l05Find_d (xs := M.os) (x := L[k]) hMo) ?_ ?_ ?_; (focus (simp only [go_sem, seval, reduceCtorEq]; done)); (first | rfl | (focus (simp only [go_sem]; done))))
    cases h5 : has M.os L[k]
    · have e0 := no (by rw [eok]; exact shar_no hlt (by simp [sharB, h4, h5]))
      have e := e0.1
      have e2 := e0.2
      have c5 : place M.os L[k] < 0 := place_neg.2 (has_false.1 h5)
      simp only [go_sem, seval, reduceCtorEq, c5, e, e2]
      refine FnEnd.wk (Wk.trans (Wk.nilS 2 3 3 _ _ _ rfl rfl) (Wk.nilS 2 4 1 _ _ _ rfl rfl)) ?_
      (refine FnEnd.mk (Nat.le_of_ble_eq_true rfl) rfl (of_decide_eq_true rfl) ?_ ?_ <;> try simp only [go_sem, seval, reduceCtorEq])
    have c5 : ¬ place M.os L[k] < 0 := fun e => by rw [has_false.2 (place_neg.1 e)] at h5; cases h5
    simp only [go_sem, seval, reduceCtorEq, c5]
    (refine ti_call (l05Find_d (xs := N.os) (x := L[k]) hNo) ?_ ?_ ?_; (focus (simp only [go_sem, seval, reduceCtorEq]; done)); (first | rfl | (focus (simp only [go_sem]; done))))
    cases h6 : has N.os L[k]
    · have e0 := no (by rw [eok]; exact shar_no hlt (by simp [sharB, h4, h6]))
      have e := e0.1
      have e2 := e0.2
      have c6 : place N.os L[k] < 0 := place_neg.2 (has_false.1 h6)
      simp only [go_sem, seval, reduceCtorEq, c6, e, e2]
      refine FnEnd.wk (Wk.trans (Wk.nilS 2 3 3 _ _ _ rfl rfl) (Wk.nilS 2 4 1 _ _ _ rfl rfl)) ?_
      (refine FnEnd.mk (Nat.le_of_ble_eq_true rfl) rfl (of_decide_eq_true rfl) ?_ ?_ <;> try simp only [go_sem, seval, reduceCtorEq])
    have c6 : ¬ place N.os L[k] < 0 := fun e => by rw [has_false.2 (place_neg.1 e)] at h6; cases h6
    have hI := shar_next (M := M) (N := N) hlt (by simp [sharB, h5, h6]) hi
    simp (disch := omega) only [go_sem, seval, reduceCtorEq, c6]
    (refine NextI.drop [false, false, false, false, false, false, false, true, false, true, false, false, false, false, false, false, false, false, false, false, false, false, false, false, false, false, false, false, false, false, false, false, true, true, true, true, true, true, true, true, true, true, true, true, true, true, true, true, true, true, true, true, true, true, true, true, false, false, false, false, false, false, false, false, false, false, false, false, false, false, false, false, false] (by omega) (hI) (Nat.le_of_ble_eq_true rfl) ?_ ?_ <;> first | (simp only [go_sem, seval, reduceCtorEq, dropF_ch, dropF_cons, dropF_nil, cut, cond_true, cond_false, Int.natCast_zero, Int.natCast_add, Int.natCast_one]; done) | rfl | (simp only [go_sem, seval, reduceCtorEq, dropF_ch, dropF_cons, dropF_nil, cut, cond_true, cond_false, Int.natCast_zero, Int.natCast_add, Int.natCast_one]; rfl) | skip)
  have d1 : ¬ (k : Int) < L.length := by omega
  have hok : nJoinOk M N = true := by rw [eok]; exact shar_all fun j hj => hi j hj (by omega)
  simp (disch := omega) only [go_sem, seval, reduceCtorEq, d1]
  (refine ti_call (l14Copy_d h) ?_ ?_ ?_; (focus (simp only [go_sem, seval, reduceCtorEq]; done)); (first | rfl | (focus (simp only [go_sem]; done))))
  simp only [go_sem, seval, reduceCtorEq]
  (refine gi_call (l14Copy_s h') ?_ ?_ ?_; (focus (simp only [go_sem, seval, reduceCtorEq]; done)); (first | rfl | (focus (simp only [go_sem]; done))))
  have hfl := flT_len (ts := N.ts)
  have hle : N.ts.length * 3 ≤ (flT N.ts).length := by omega
  simp (disch := omega) only [go_sem, seval, reduceCtorEq, ownN, stoNS, shS_cons, ownS_take, rnL_ownS_fg, rootS_rn, if_pos hle]
  refine ⟨by omega, ?_⟩
  refine GH.mk (wk_merge (m := 8) 6 3 3 true (τ := [_, _, _, _, _, _, _, _]) (A := tcA M.ts) (l := flT N.ts) (Nat.le_of_ble_eq_true rfl) (Nat.le_of_ble_eq_true rfl) rfl rfl) ?_
  simp only [go_sem, seval, reduceCtorEq, dropF_ch, dropF_cons, dropF_nil, cut, cond_true, cond_false, Int.natCast_zero, Int.natCast_add, Int.natCast_one, ← tcA_trS, ← tcA_app, rnL_tcA]
  (refine ti_call (l05Ints_d (xs := o) ho.up.len) ?_ ?_ ?_; (focus (simp only [go_sem, seval, reduceCtorEq]; done)); (first | rfl | (focus (simp only [go_sem]; done))))
  have hln : (M.ts ++ N.ts).length = M.ts.length + N.ts.length := by simp
  simp only [go_sem, seval, reduceCtorEq]
  rw [← hln]
  (refine ti_call (sNetworkOk_d (nJoin_sz h h' ho (by omega))) ?_ ?_ ?_; (focus (simp only [go_sem, seval, reduceCtorEq, nJoin]; done)); (first | rfl | (focus (simp only [go_sem]; done))))
  cases h7 : netOk (nJoin M N o)
  · have e : nJoinB M N o = false := by simp [nJoinB, h7]
    simp only [go_sem, seval, reduceCtorEq, h7, e, nJoinN, cond_false]
    refine FnEnd.wk (Wk.trans (Wk.nilS 2 3 3 _ _ _ rfl rfl) (Wk.nilS 2 4 1 _ _ _ rfl rfl)) ?_
    (refine FnEnd.mk (Nat.le_of_ble_eq_true rfl) rfl (of_decide_eq_true rfl) ?_ ?_ <;> try simp only [go_sem, seval, reduceCtorEq])
  have e : nJoinB M N o = true := by simp [nJoinB, hok, h7]
  simp only [go_sem, seval, reduceCtorEq, h7, e, nJoinN, cond_true, nJoin]
  (refine FnEnd.mk (Nat.le_of_ble_eq_true rfl) rfl (of_decide_eq_true rfl) ?_ ?_ <;> try simp only [go_sem, seval, reduceCtorEq])
end Go.Proofs.Ytlijfhfhonalgaa
