/-
  Contracts: parts of networks. No condition.
-/
import Derived.Test.YtcgnehacihjnkaaCodeK
import Derived.Test.YtcgnehacihjnkaaSetA
import Derived.Test.YtcgnehacihjnkaaNetH
import Derived.Test.YtcgnehacihjnkaaPlE
namespace Go.Proofs.Ytcgnehacihjnkaa
open Go.RowKit Go.Lift Plain
set_option linter.unusedSimpArgs false
set_option linter.unusedVariables false
set_option maxRecDepth 100000

def subT (ts : List Ten) (l : List Int) : List Ten := l.map fun x => tget ts x.toNat
def subOkL (n : Nat) (l : List Int) : Bool := decide (∀ k (hk : k < l.length), 0 ≤ l[k] ∧ l[k] < n ∧ l[k] ∉ l.take k)
def outT (ts : List Ten) (l : List Int) (k : Nat) : List Ten := pickT (fun i => !has l i) ts k
def subQ (N : Net) (l : List Int) (i : Nat) : Bool := anyL (subT N.ts l) i && (anyL (outT N.ts l N.ts.length) i && !has N.os i)
def subO (N : Net) (l : List Int) : List Int := N.os.filter (anyL (subT N.ts l)) ++ pickTo (subQ N l) 100
def subN0 (N : Net) (l : List Int) : Net := ⟨N.k, N.p, N.n, subT N.ts l, subO N l⟩
noncomputable def subB (N : Net) (l : List Int) : Bool := netOk N && subOkL N.ts.length l && netOk (subN0 N l)
noncomputable def subN (N : Net) (l : List Int) : Net := bif subB N l then subN0 N l else zeroN
theorem subOkL_no {n : Nat} {l : List Int} (k : Nat) (hk : k < l.length) (h : ¬ (0 ≤ l[k] ∧ l[k] < n ∧ l[k] ∉ l.take k)) : subOkL n l = false := decide_eq_false fun e => h (e k hk)
theorem subOkL_yes {n : Nat} {l : List Int} (h : ∀ k (hk : k < l.length), k < l.length → 0 ≤ l[k] ∧ l[k] < n ∧ l[k] ∉ l.take k) : subOkL n l = true := decide_eq_true fun k hk => h k hk hk
theorem subOkL_mem {n : Nat} {l : List Int} (h : subOkL n l = true) : ∀ x ∈ l, 0 ≤ x ∧ x < n := fun x hx => by
  obtain ⟨k, hk, rfl⟩ := List.mem_iff_getElem.1 hx
  have := of_decide_eq_true h k hk
  exact ⟨this.1, this.2.1⟩
theorem subOkL_len {n : Nat} {l : List Int} (h : subOkL n l = true) : l.length ≤ n := by
  have hn : l.Nodup := nodup_of_fresh fun k hk => (of_decide_eq_true h k hk).2.2
  have := nodup_sub_len (M := (List.range n).map fun (i : Nat) => (i : Int)) hn fun x hx => by
    have := subOkL_mem h x hx
    exact List.mem_map.2 ⟨x.toNat, by simp; omega, by omega⟩
  simpa using this
theorem subT_len (ts : List Ten) (l : List Int) : (subT ts l).length = l.length := by simp [subT]
theorem subT_nil (ts : List Ten) : subT ts [] = [] := rfl
theorem subT_next {ts : List Ten} {l : List Int} {k : Nat} (h : k < l.length) (hx : l[k].toNat < ts.length) : subT ts (l.take (k + 1)) = subT ts (l.take k) ++ [ts[l[k].toNat]] := by
  rw [subT, take_ss h, List.map_append]
  simp [subT, tget_at hx]
theorem subT_mem {ts : List Ten} {l : List Int} (h : ∀ x ∈ l, 0 ≤ x ∧ x < ts.length) {t : Ten} (ht : t ∈ subT ts l) : t ∈ ts := by
  obtain ⟨x, hx, rfl⟩ := List.mem_map.1 ht
  have := h x hx
  rw [tget_at (by omega)]
  exact List.getElem_mem _
theorem subO_len (N : Net) (l : List Int) : (subO N l).length ≤ N.os.length + 100 := by
  have h1 := List.length_filter_le (anyL (subT N.ts l)) N.os
  have h2 := pickTo_len (subQ N l) 100
  simp only [subO, List.length_append]
  omega
theorem subN0_sz {N : Net} {l : List Int} (h : NSz 1048576 N) (hok : netOk N = true) (hl : subOkL N.ts.length l = true) : NSz 1048576 (subN0 N l) := by
  have h12 := (netOk_iff.1 hok).2.1
  have hll := subOkL_len hl
  have ho := subO_len N l
  have ho12 : N.os.length ≤ 12 := by
    false_or_by_contra
    exact (netOk_iff.1 hok).2.2.2.2 (tsize_len1 (by omega))
  refine ⟨h.k, h.p, h.n, by show (subT _ _).length ≤ _; rw [subT_len]; omega, fun t ht => h.t t (subT_mem (subOkL_mem hl) ht), ⟨by show (subO N l).length ≤ _; omega, fun x hx => ?_⟩⟩
  rcases List.mem_append.1 hx with hx | hx
  · exact h.o.wf x (List.mem_filter.1 hx).1
  · obtain ⟨i, hi, _, rfl⟩ := pickTo_mem hx
    exact ⟨by omega, by omega⟩
theorem subN_sz {N : Net} {l : List Int} (h : NSz 1048576 N) : NSz 1048576 (subN N l) := by
  unfold subN
  cases e : subB N l
  · exact zeroN_sz
  · simp only [subB, Bool.and_eq_true] at e
    exact subN0_sz h e.1.1 e.1.2
theorem subN_tot {N : Net} {l : List Int} (h : NSz 1048576 N) : totT (subN N l).ts + (subN N l).os.length ≤ 100000000 := by
  have hsz := subN_sz (l := l) h
  have ho := hsz.o.len
  unfold subN at *
  cases e : subB N l
  · simp [zeroN, totT]
  · rw [e] at hsz ho
    simp only [subB, Bool.and_eq_true] at e
    have := totT_le (n := 12) (netOk_iff.1 e.2).2.1 hsz.t
    simp only [cond_true] at ho this ⊢
    omega
theorem any_sub {ts : List Ten} {l : List Int} {k : Nat} (h : k < l.length) (hx : l[k].toNat < ts.length) : bits 100 (markF (anyN (subT ts (l.take k))) ts[l[k].toNat].labels) = bits 100 (anyN (subT ts (l.take (k + 1)))) :=
  bits_congr fun j _ => by simp [anyN, markF, anyL, subT_next h hx]
theorem any_out {ts : List Ten} {l : List Int} {k : Nat} (hk : k < ts.length) (h : has l k = false) : bits 100 (markF (anyN (outT ts l k)) ts[k].labels) = bits 100 (anyN (outT ts l (k + 1))) := any_next hk (by simp [h])
set_option maxHeartbeats 1600000 in
theorem iSubNetwork_d {N : Net} {l : List Int} (h : NSz 1048576 N) (hL : Sz 1048576 l) : Does Try.prog 18 [netA N, .d (ints l)] [] (.tup [ownN 0 (subN N l), .d (.bool (subB N l))]) (stoN (subN N l)) := by
  have hnl := h.l
  have hll := hL.len
  have hol := h.o.len
  (refine spec_of (by kernel_rfl) Try.func18 k_impl_SubNetwork (fnOk (Nat.le_of_ble_eq_true rfl) ?_); unfold C_impl_SubNetwork)
  (simp only [Nat.reduceSub, List.length_cons, List.length_nil, Nat.reduceAdd, ch_init1, ch_init2, ch_init3, ch_init4, ch_init5, ch_init6, ch_init7, ch_init8]; try simp only [ch_rep]); (simp only [go_sem, seval, reduceCtorEq, List.replicate])
  (refine ti_call (iNetworkOk_d h) ?_ ?_ ?_; (focus (simp only [go_sem, seval, reduceCtorEq]; done)); (first | rfl | (focus (simp only [go_sem]; done))))
  cases hok : netOk N
  · have e : subB N l = false := by simp [subB, hok]
    simp only [go_sem, seval, reduceCtorEq, hok, e, subN, cond_false]
    refine FnEnd.wk (Wk.trans (Wk.nilS 1 3 3 _ _ _ rfl rfl) (Wk.nilS 1 4 1 _ _ _ rfl rfl)) ?_
    (refine FnEnd.mk (Nat.le_of_ble_eq_true rfl) rfl (of_decide_eq_true rfl) ?_ ?_ <;> try simp only [go_sem, seval, reduceCtorEq])
  have hax := netOk_ax hok
  have h12 := (netOk_iff.1 hok).2.1
  simp only [go_sem, seval, reduceCtorEq, hok]
  by_cases b1 : (l.length : Int) > N.ts.length
  · have e0 : subOkL N.ts.length l = false := by
      cases e : subOkL N.ts.length l
      · rfl
      · have := subOkL_len e
        omega
    have e : subB N l = false := by simp [subB, e0]
    simp only [go_sem, seval, reduceCtorEq, b1, e, subN, cond_false]
    refine FnEnd.wk (Wk.trans (Wk.nilS 1 3 3 _ _ _ rfl rfl) (Wk.nilS 1 4 1 _ _ _ rfl rfl)) ?_
    (refine FnEnd.mk (Nat.le_of_ble_eq_true rfl) rfl (of_decide_eq_true rfl) ?_ ?_ <;> try simp only [go_sem, seval, reduceCtorEq])
  simp only [go_sem, seval, reduceCtorEq, b1]
  refine wpN_lpI (l.length) [false, false, false, false, false, true, true, true, false, false, false, false, false, false, false, false, false, false, false, false, false, false, false, false, false, false, false, false, false, false, false, false, false, true, true, true, true, true, true, true, true, true, true, true, true, true, true, true, true, true, true, true, true, true, true, false, false, false, false, false, false, false, false, false, false, false, false, false, false, false, false, false, false, false, false, false, false, false, false, false, false, false, false, false, false, false, false, false, false, false, false, false, false, false, false, false, false, false, false, false, false, false, false, false, false, false, false, false, false, false, false, false, false, false, false, false, false, false, false, false, false, false, false, false, false, false, false, false, false, false, false, false, false, false, false, false, false, false, false, false, false, false, false, false, false, false] (fun k => ∀ j (hj : j < l.length), j < k → 0 ≤ l[j] ∧ l[j] < N.ts.length ∧ l[j] ∉ l.take j) (fun k => [(32, .d (.int k))]) (fun k => []) (fun _ => by (simp only [go_sem, seval, reduceCtorEq, dropF_ch, dropF_cons, dropF_nil, cut, cond_true, cond_false]); first | done | rfl) (fun _ => by (simp only [go_sem, seval, reduceCtorEq, cut]); first | done | rfl) (fun j _ hj => absurd hj (Nat.not_lt_zero j)) (Nat.le_of_ble_eq_true rfl) (by first | (simp only [go_sem, seval, reduceCtorEq, dropF_ch, dropF_cons, dropF_nil, cut, cond_true, cond_false, Int.natCast_zero, Int.natCast_add, Int.natCast_one]; done) | rfl | (simp only [go_sem, seval, reduceCtorEq, dropF_ch, dropF_cons, dropF_nil, cut, cond_true, cond_false, Int.natCast_zero, Int.natCast_add, Int.natCast_one]; rfl)) (by first | (simp only [go_sem, seval, reduceCtorEq, dropF_ch, dropF_cons, dropF_nil, cut, cond_true, cond_false, Int.natCast_zero, Int.natCast_add, Int.natCast_one]; done) | rfl | (simp only [go_sem, seval, reduceCtorEq, dropF_ch, dropF_cons, dropF_nil, cut, cond_true, cond_false, Int.natCast_zero, Int.natCast_add, Int.natCast_one]; rfl)) fun k hk hi => ?_
  unfold L4_impl_SubNetwork
  by_cases hlt : k < l.length
  · have d1 : (k : Int) < l.length := by omega
    have g : l[k]? = some l[k] := List.getElem?_eq_getElem hlt
    have hbad : ¬ (0 ≤ l[k] ∧ l[k] < N.ts.length ∧ l[k] ∉ l.take k) → subB N l = false := fun hb => by simp [subB, subOkL_no k hlt hb]
    by_cases b2 : l[k] < 0
    · have e := hbad (by omega)
      simp (disch := omega) only [go_sem, seval, reduceCtorEq, d1, g, b2, e, subN, cond_false]
      refine FnEnd.wk (Wk.trans (Wk.nilS 1 3 3 _ _ _ rfl rfl) (Wk.nilS 1 4 1 _ _ _ rfl rfl)) ?_
      (refine FnEnd.mk (Nat.le_of_ble_eq_true rfl) rfl (of_decide_eq_true rfl) ?_ ?_ <;> try simp only [go_sem, seval, reduceCtorEq])
    by_cases b3 : l[k] ≥ N.ts.length
    · have e := hbad (by omega)
      simp (disch := omega) only [go_sem, seval, reduceCtorEq, d1, g, b2, b3, e, subN, cond_false]
      refine FnEnd.wk (Wk.trans (Wk.nilS 1 3 3 _ _ _ rfl rfl) (Wk.nilS 1 4 1 _ _ _ rfl rfl)) ?_
      (refine FnEnd.mk (Nat.le_of_ble_eq_true rfl) rfl (of_decide_eq_true rfl) ?_ ?_ <;> try simp only [go_sem, seval, reduceCtorEq])
    have htk : (l.take k).length = k := by rw [List.length_take]; omega
    simp (disch := omega) only [go_sem, seval, reduceCtorEq, d1, g, b2, b3]
    (repeat (refine And.intro (by omega) ?_))
    (refine ti_call (hasInt_d (xs := l.take k) (x := l[k]) (by omega)) ?_ ?_ ?_; (focus (simp only [go_sem, seval, reduceCtorEq, htk, Int.sub_zero]; done)); (first | rfl | (focus (simp only [go_sem]; done))))
    cases hh : has (l.take k) l[k]
    · have hI : ∀ j (hj : j < l.length), j < k + 1 → 0 ≤ l[j] ∧ l[j] < N.ts.length ∧ l[j] ∉ l.take j := fun j hj hjk => by
        by_cases e : j = k
        · subst e
          exact ⟨by omega, by omega, has_false.1 hh⟩
        · exact hi j hj (by omega)
      simp (disch := omega) only [go_sem, seval, reduceCtorEq, hh]
      (refine NextI.drop [false, false, false, false, false, true, true, true, false, false, false, false, false, false, false, false, false, false, false, false, false, false, false, false, false, false, false, false, false, false, false, false, false, true, true, true, true, true, true, true, true, true, true, true, true, true, true, true, true, true, true, true, true, true, true, false, false, false, false, false, false, false, false, false, false, false, false, false, false, false, false, false, false, false, false, false, false, false, false, false, false, false, false, false, false, false, false, false, false, false, false, false, false, false, false, false, false, false, false, false, false, false, false, false, false, false, false, false, false, false, false, false, false, false, false, false, false, false, false, false, false, false, false, false, false, false, false, false, false, false, false, false, false, false, false, false, false, false, false, false, false, false, false, false, false, false] (by omega) (hI) (Nat.le_of_ble_eq_true rfl) ?_ ?_ <;> first | (simp only [go_sem, seval, reduceCtorEq, dropF_ch, dropF_cons, dropF_nil, cut, cond_true, cond_false, Int.natCast_zero, Int.natCast_add, Int.natCast_one]; done) | rfl | (simp only [go_sem, seval, reduceCtorEq, dropF_ch, dropF_cons, dropF_nil, cut, cond_true, cond_false, Int.natCast_zero, Int.natCast_add, Int.natCast_one]; rfl) | skip)
    · have e := hbad fun x => x.2.2 (has_true.1 hh)
      simp (disch := omega) only [go_sem, seval, reduceCtorEq, hh, e, subN, cond_false]
      refine FnEnd.wk (Wk.trans (Wk.nilS 1 3 3 _ _ _ rfl rfl) (Wk.nilS 1 4 1 _ _ _ rfl rfl)) ?_
      (refine FnEnd.mk (Nat.le_of_ble_eq_true rfl) rfl (of_decide_eq_true rfl) ?_ ?_ <;> try simp only [go_sem, seval, reduceCtorEq])
  have d1 : ¬ (k : Int) < l.length := by omega
  obtain rfl : k = l.length := by omega
  have hlo := subOkL_yes hi
  have hlm := subOkL_mem hlo
  clear hi
  simp (disch := omega) only [go_sem, seval, reduceCtorEq, d1]
  have hz2 : bits 100 (anyN []) = bits 100 fun _ => false := bits_congr fun i _ => rfl
  (refine wpN_lwk (Wk.nilS 2 3 3 _ _ _ rfl rfl) ?_; simp only [go_sem, seval, reduceCtorEq])
  refine wpN_lp (l.length) [false, false, false, false, false, false, false, false, false, false, false, false, true, false, false, false, false, false, false, false, false, false, false, false, false, false, false, false, false, false, false, false, false, false, false, false, false, false, false, false, false, false, false, false, false, false, false, false, false, false, false, false, false, false, false, false, false, false, false, false, false, true, true, true, true, true, true, true, true, true, true, true, true, true, true, true, true, true, true, true, true, true, true, false, false, false, false, false, false, false, false, false, false, false, false, false, false, false, false, false, false, false, false, false, false, false, false, false, false, false, false, false, false, false, false, false, false, false, false, false, false, false, false, false, false, false, false, false, false, false, false, false, false, false, false, false, false, false, false, false, false, false, false, false, false, false] (fun k => [(60, .d (.int k))]) (fun k => [(2, [.d (.int N.k), .d (.int N.p), .d (.int N.n), .own 5 0 k, .nil]), (3, bv (bits 100 (anyN (subT N.ts (l.take k))))), (5, tcA (subT N.ts (l.take k)))]) (fun _ => by (simp only [go_sem, seval, reduceCtorEq, dropF_ch, dropF_cons, dropF_nil, cut, cond_true, cond_false]); first | done | rfl) (fun _ => by (simp only [go_sem, seval, reduceCtorEq, cut]); first | done | rfl) (Nat.le_of_ble_eq_true rfl) (by first | (simp only [go_sem, seval, reduceCtorEq, dropF_ch, dropF_cons, dropF_nil, cut, cond_true, cond_false, Int.natCast_zero, Int.natCast_add, Int.natCast_one, List.take_zero, subT_nil, tcA_nil, hz2]; done) | rfl | (simp only [go_sem, seval, reduceCtorEq, dropF_ch, dropF_cons, dropF_nil, cut, cond_true, cond_false, Int.natCast_zero, Int.natCast_add, Int.natCast_one, List.take_zero, subT_nil, tcA_nil, hz2]; rfl)) (by first | (simp only [go_sem, seval, reduceCtorEq, dropF_ch, dropF_cons, dropF_nil, cut, cond_true, cond_false, Int.natCast_zero, Int.natCast_add, Int.natCast_one, List.take_zero, subT_nil, tcA_nil, hz2]; done) | rfl | (simp only [go_sem, seval, reduceCtorEq, dropF_ch, dropF_cons, dropF_nil, cut, cond_true, cond_false, Int.natCast_zero, Int.natCast_add, Int.natCast_one, List.take_zero, subT_nil, tcA_nil, hz2]; rfl)) fun k hk => ?_
  unfold L3_impl_SubNetwork
  by_cases hlt : k < l.length
  · have d2 : (k : Int) < l.length := by omega
    have g : l[k]? = some l[k] := List.getElem?_eq_getElem hlt
    have hb := hlm l[k] (List.getElem_mem hlt)
    obtain ⟨i, hi⟩ : ∃ i : Nat, l[k] = i := ⟨l[k].toNat, by omega⟩
    have hin : i < N.ts.length := by omega
    have d3 : (i : Int) < N.ts.length := by omega
    have g3 := tcs_cut (List.getElem?_eq_getElem hin)
    have g0 := (tcs_get (List.getElem?_eq_getElem hin)).1
    have hst := h.t N.ts[i] (List.getElem_mem hin)
    have hlab := ax_labels (hax N.ts[i] (List.getElem_mem hin))
    have hix : l[k].toNat < N.ts.length := by omega
    have hnx := subT_next hlt hix
    have hax2 := any_sub hlt hix
    simp only [hi, Int.toNat_natCast] at hnx hax2
    have hsl : (subT N.ts (l.take k)).length = k := by rw [subT_len, List.length_take]; omega
    simp (disch := omega) only [go_sem, seval, reduceCtorEq, d2, g, hi, d3, g3]
    (repeat (refine And.intro (by omega) ?_))
    (refine gi_call (copyTensor_d (t := N.ts[i]) hst) ?_ ?_ ?_; (focus (simp only [go_sem, seval, reduceCtorEq]; done)); (first | rfl | (focus (simp only [go_sem]; done))))
    simp (disch := omega) only [go_sem, seval, reduceCtorEq, hsl, d3, g0]
    (repeat (refine And.intro (by omega) ?_))
    (refine ti_callw [3] false (markLabels_d (f := anyN (subT N.ts (l.take k))) (L := N.ts[i].labels) hst.l.up.len hlab) (of_decide_eq_true rfl) ?_ ?_ ?_ ?_ (of_decide_eq_true rfl) ?_; (focus (simp only [go_sem, seval, reduceCtorEq]; done)); (focus (simp only [go_sem, seval, reduceCtorEq]; done)); (focus (simp only [go_sem, seval, reduceCtorEq]; done)); (focus (simp only [go_sem, seval, reduceCtorEq]; done)))
    simp (disch := omega) only [go_sem, seval, reduceCtorEq]
    (refine Next.mk (by omega) (Wk.trans (Wk.drG [6, 7, 8] 6 (Nat.le_of_ble_eq_true rfl) (Nat.le_of_ble_eq_true rfl) (of_decide_eq_true rfl) (of_decide_eq_true rfl)) ?_)); (simp only [go_sem, seval, reduceCtorEq, dropG_ch, dropG_cons, dropG_nil, cond_true, cond_false, Int.natCast_zero, Int.natCast_add, Int.natCast_one, hnx, hax2, tcA_app, tcA_one]); (refine Wk.eq (Wk.ad3s [false, false, false, false, false, false, false, false, false, false, false, false, true, false, false, false, false, false, false, false, false, false, false, false, false, false, false, false, false, false, false, false, false, false, false, false, false, false, false, false, false, false, false, false, false, false, false, false, false, false, false, false, false, false, false, false, false, false, false, false, false, true, true, true, true, true, true, true, true, true, true, true, true, true, true, true, true, true, true, true, true, true, true, false, false, false, false, false, false, false, false, false, false, false, false, false, false, false, false, false, false, false, false, false, false, false, false, false, false, false, false, false, false, false, false, false, false, false, false, false, false, false, false, false, false, false, false, false, false, false, false, false, false, false, false, false, false, false, false, false, false, false, false, false, false, false] 5 3 (k * 3) true (τ := [_, _, _, _, _, _]) (Nat.le_of_ble_eq_true rfl) rfl (by rw [tcA_len, hsl]) rfl (treL_iv _) (treL_iv _) (treL_iv _) (by simp only [go_sem, seval, reduceCtorEq]) (by simp only [go_sem, seval, reduceCtorEq]) (by simp only [go_sem, seval, reduceCtorEq]) (fun _ => rnL_iv _) (fun _ => rnL_iv _)) ?_ ?_ <;> first | (simp only [go_sem, seval, reduceCtorEq, dropF_ch, dropF_cons, dropF_nil, cut, cond_true, cond_false, Int.natCast_zero, Int.natCast_add, Int.natCast_one, hnx, hax2, tcA_app, tcA_one]; done) | rfl | (simp only [go_sem, seval, reduceCtorEq, dropF_ch, dropF_cons, dropF_nil, cut, cond_true, cond_false, Int.natCast_zero, Int.natCast_add, Int.natCast_one, hnx, hax2, tcA_app, tcA_one]; rfl) | skip)
  have d2 : ¬ (k : Int) < l.length := by omega
  obtain rfl : k = l.length := by omega
  simp (disch := omega) only [go_sem, seval, reduceCtorEq, d2, List.take_length]
  have hzo : outT N.ts l 0 = [] := rfl
  refine wpN_lp (N.ts.length) [false, false, false, false, false, false, false, false, false, false, false, false, false, true, true, false, false, false, false, false, false, false, false, false, false, false, false, false, false, false, false, false, false, false, false, false, false, false, false, false, false, false, false, false, false, false, false, false, false, false, false, false, false, false, false, false, false, false, false, false, false, false, false, false, false, false, false, false, false, false, false, false, false, false, false, false, false, false, false, false, false, false, false, false, false, false, false, true, true, true, true, true, true, true, true, true, true, true, true, false, false, false, false, false, false, false, false, false, false, false, false, false, false, false, false, false, false, false, false, false, false, false, false, false, false, false, false, false, false, false, false, false, false, false, false, false, false, false, false, false, false, false, false, false, false, false] (fun k => [(86, .d (.int k))]) (fun k => [(4, bv (bits 100 (anyN (outT N.ts l k))))]) (fun _ => by (simp only [go_sem, seval, reduceCtorEq, dropF_ch, dropF_cons, dropF_nil, cut, cond_true, cond_false]); first | done | rfl) (fun _ => by (simp only [go_sem, seval, reduceCtorEq, cut]); first | done | rfl) (Nat.le_of_ble_eq_true rfl) (by first | (simp only [go_sem, seval, reduceCtorEq, dropF_ch, dropF_cons, dropF_nil, cut, cond_true, cond_false, Int.natCast_zero, Int.natCast_add, Int.natCast_one, hzo, hz2]; done) | rfl | (simp only [go_sem, seval, reduceCtorEq, dropF_ch, dropF_cons, dropF_nil, cut, cond_true, cond_false, Int.natCast_zero, Int.natCast_add, Int.natCast_one, hzo, hz2]; rfl)) (by first | (simp only [go_sem, seval, reduceCtorEq, dropF_ch, dropF_cons, dropF_nil, cut, cond_true, cond_false, Int.natCast_zero, Int.natCast_add, Int.natCast_one, hzo, hz2]; done) | rfl | (simp only [go_sem, seval, reduceCtorEq, dropF_ch, dropF_cons, dropF_nil, cut, cond_true, cond_false, Int.natCast_zero, Int.natCast_add, Int.natCast_one, hzo, hz2]; rfl)) fun k hk => ?_
  unfold L2_impl_SubNetwork
  by_cases hlt : k < N.ts.length
  · have d3 : (k : Int) < N.ts.length := by omega
    have g3 := tcs_cut (List.getElem?_eq_getElem hlt)
    have hst := h.t N.ts[k] (List.getElem_mem hlt)
    have hlab := ax_labels (hax N.ts[k] (List.getElem_mem hlt))
    simp (disch := omega) only [go_sem, seval, reduceCtorEq, d3, g3]
    (repeat (refine And.intro (by omega) ?_))
    (refine ti_call (hasInt_d (xs := l) (x := (k : Int)) (by omega)) ?_ ?_ ?_; (focus (simp only [go_sem, seval, reduceCtorEq]; done)); (first | rfl | (focus (simp only [go_sem]; done))))
    cases hh : has l k
    · have hp := any_out hlt hh
      simp (disch := omega) only [go_sem, seval, reduceCtorEq, hh]
      (refine ti_callw [4] false (markLabels_d (f := anyN (outT N.ts l k)) (L := N.ts[k].labels) hst.l.up.len hlab) (of_decide_eq_true rfl) ?_ ?_ ?_ ?_ (of_decide_eq_true rfl) ?_; (focus (simp only [go_sem, seval, reduceCtorEq]; done)); (focus (simp only [go_sem, seval, reduceCtorEq]; done)); (focus (simp only [go_sem, seval, reduceCtorEq]; done)); (focus (simp only [go_sem, seval, reduceCtorEq]; done)))
      simp (disch := omega) only [go_sem, seval, reduceCtorEq]
      (refine Next.drop [false, false, false, false, false, false, false, false, false, false, false, false, false, true, true, false, false, false, false, false, false, false, false, false, false, false, false, false, false, false, false, false, false, false, false, false, false, false, false, false, false, false, false, false, false, false, false, false, false, false, false, false, false, false, false, false, false, false, false, false, false, false, false, false, false, false, false, false, false, false, false, false, false, false, false, false, false, false, false, false, false, false, false, false, false, false, false, true, true, true, true, true, true, true, true, true, true, true, true, false, false, false, false, false, false, false, false, false, false, false, false, false, false, false, false, false, false, false, false, false, false, false, false, false, false, false, false, false, false, false, false, false, false, false, false, false, false, false, false, false, false, false, false, false, false, false] (by omega) (Nat.le_of_ble_eq_true rfl) ?_ ?_ <;> first | (simp only [go_sem, seval, reduceCtorEq, dropF_ch, dropF_cons, dropF_nil, cut, cond_true, cond_false, Int.natCast_zero, Int.natCast_add, Int.natCast_one, hp]; done) | rfl | (simp only [go_sem, seval, reduceCtorEq, dropF_ch, dropF_cons, dropF_nil, cut, cond_true, cond_false, Int.natCast_zero, Int.natCast_add, Int.natCast_one, hp]; rfl) | skip)
    · have hp : outT N.ts l (k + 1) = outT N.ts l k := pickT_no (by simp [hh])
      simp (disch := omega) only [go_sem, seval, reduceCtorEq, hh]
      (refine Next.drop [false, false, false, false, false, false, false, false, false, false, false, false, false, true, true, false, false, false, false, false, false, false, false, false, false, false, false, false, false, false, false, false, false, false, false, false, false, false, false, false, false, false, false, false, false, false, false, false, false, false, false, false, false, false, false, false, false, false, false, false, false, false, false, false, false, false, false, false, false, false, false, false, false, false, false, false, false, false, false, false, false, false, false, false, false, false, false, true, true, true, true, true, true, true, true, true, true, true, true, false, false, false, false, false, false, false, false, false, false, false, false, false, false, false, false, false, false, false, false, false, false, false, false, false, false, false, false, false, false, false, false, false, false, false, false, false, false, false, false, false, false, false, false, false, false, false] (by omega) (Nat.le_of_ble_eq_true rfl) ?_ ?_ <;> first | (simp only [go_sem, seval, reduceCtorEq, dropF_ch, dropF_cons, dropF_nil, cut, cond_true, cond_false, Int.natCast_zero, Int.natCast_add, Int.natCast_one, hp]; done) | rfl | (simp only [go_sem, seval, reduceCtorEq, dropF_ch, dropF_cons, dropF_nil, cut, cond_true, cond_false, Int.natCast_zero, Int.natCast_add, Int.natCast_one, hp]; rfl) | skip)
  have d3 : ¬ (k : Int) < N.ts.length := by omega
  obtain rfl : k = N.ts.length := by omega
  simp (disch := omega) only [go_sem, seval, reduceCtorEq, d3]
  (refine wpN_lwk (Wk.nilS 2 4 1 _ _ _ rfl rfl) ?_; simp only [go_sem, seval, reduceCtorEq])
  refine wpN_lp (N.os.length) [false, false, false, false, false, false, false, false, false, false, false, false, false, false, false, false, true, false, false, false, false, false, false, false, false, false, false, false, false, false, false, false, false, false, false, false, false, false, false, false, false, false, false, false, false, false, false, false, false, false, false, false, false, false, false, false, false, false, false, false, false, false, false, false, false, false, false, false, false, false, false, false, false, false, false, false, false, false, false, false, false, false, false, false, false, false, false, false, false, false, false, false, false, false, false, false, false, false, false, false, false, false, false, true, true, true, true, true, true, true, true, true, true, true, true, true, false, false, false, false, false, false, false, false, false, false, false, false, false, false, false, false, false, false, false, false, false, false, false, false, false, false, false, false, false, false] (fun k => [(102, .d (.int k))]) (fun k => [(2, [.d (.int N.k), .d (.int N.p), .d (.int N.n), .own 5 0 l.length, .own 6 0 ((N.os.take k).filter (anyL (subT N.ts l))).length]), (6, iv ((N.os.take k).filter (anyL (subT N.ts l))))]) (fun _ => by (simp only [go_sem, seval, reduceCtorEq, dropF_ch, dropF_cons, dropF_nil, cut, cond_true, cond_false]); first | done | rfl) (fun _ => by (simp only [go_sem, seval, reduceCtorEq, cut]); first | done | rfl) (Nat.le_of_ble_eq_true rfl) (by first | (simp only [go_sem, seval, reduceCtorEq, dropF_ch, dropF_cons, dropF_nil, cut, cond_true, cond_false, Int.natCast_zero, Int.natCast_add, Int.natCast_one, List.take_zero, List.filter_nil, iv_nil]; done) | rfl | (simp only [go_sem, seval, reduceCtorEq, dropF_ch, dropF_cons, dropF_nil, cut, cond_true, cond_false, Int.natCast_zero, Int.natCast_add, Int.natCast_one, List.take_zero, List.filter_nil, iv_nil]; rfl)) (by first | (simp only [go_sem, seval, reduceCtorEq, dropF_ch, dropF_cons, dropF_nil, cut, cond_true, cond_false, Int.natCast_zero, Int.natCast_add, Int.natCast_one, List.take_zero, List.filter_nil, iv_nil]; done) | rfl | (simp only [go_sem, seval, reduceCtorEq, dropF_ch, dropF_cons, dropF_nil, cut, cond_true, cond_false, Int.natCast_zero, Int.natCast_add, Int.natCast_one, List.take_zero, List.filter_nil, iv_nil]; rfl)) fun k hk => ?_
  unfold L1_impl_SubNetwork
  have hfl := filter_len N.os k (anyL (subT N.ts l))
  by_cases hlt : k < N.os.length
  · have d4 : (k : Int) < N.os.length := by omega
    have g : N.os[k]? = some N.os[k] := List.getElem?_eq_getElem hlt
    have hb := net_open hok N.os[k] (List.getElem_mem hlt)
    have c1 : 0 ≤ N.os[k] := hb.1
    have c2 : N.os[k] < 100 := by omega
    have gb := bits_get (anyN (subT N.ts l)) (show N.os[k].toNat < 100 by omega)
    have gb' : anyN (subT N.ts l) N.os[k].toNat = anyL (subT N.ts l) N.os[k] := by unfold anyN; congr 1; omega
    cases hh : anyL (subT N.ts l) N.os[k]
    · have e := filter_no (p := anyL (subT N.ts l)) hlt hh
      simp (disch := omega) only [go_sem, seval, reduceCtorEq, d4, g, c1, c2, gb, gb', hh]
      (repeat (refine And.intro (by omega) ?_))
      (refine Next.drop [false, false, false, false, false, false, false, false, false, false, false, false, false, false, false, false, true, false, false, false, false, false, false, false, false, false, false, false, false, false, false, false, false, false, false, false, false, false, false, false, false, false, false, false, false, false, false, false, false, false, false, false, false, false, false, false, false, false, false, false, false, false, false, false, false, false, false, false, false, false, false, false, false, false, false, false, false, false, false, false, false, false, false, false, false, false, false, false, false, false, false, false, false, false, false, false, false, false, false, false, false, false, false, true, true, true, true, true, true, true, true, true, true, true, true, true, false, false, false, false, false, false, false, false, false, false, false, false, false, false, false, false, false, false, false, false, false, false, false, false, false, false, false, false, false, false] (by omega) (Nat.le_of_ble_eq_true rfl) ?_ ?_ <;> first | (simp only [go_sem, seval, reduceCtorEq, dropF_ch, dropF_cons, dropF_nil, cut, cond_true, cond_false, Int.natCast_zero, Int.natCast_add, Int.natCast_one, e]; done) | rfl | (simp only [go_sem, seval, reduceCtorEq, dropF_ch, dropF_cons, dropF_nil, cut, cond_true, cond_false, Int.natCast_zero, Int.natCast_add, Int.natCast_one, e]; rfl) | skip)
    · have e := filter_yes (p := anyL (subT N.ts l)) hlt hh
      simp (disch := omega) only [go_sem, seval, reduceCtorEq, d4, g, c1, c2, gb, gb', hh]
      (repeat (refine And.intro (by omega) ?_))
      (refine Next.drop [false, false, false, false, false, false, false, false, false, false, false, false, false, false, false, false, true, false, false, false, false, false, false, false, false, false, false, false, false, false, false, false, false, false, false, false, false, false, false, false, false, false, false, false, false, false, false, false, false, false, false, false, false, false, false, false, false, false, false, false, false, false, false, false, false, false, false, false, false, false, false, false, false, false, false, false, false, false, false, false, false, false, false, false, false, false, false, false, false, false, false, false, false, false, false, false, false, false, false, false, false, false, false, true, true, true, true, true, true, true, true, true, true, true, true, true, false, false, false, false, false, false, false, false, false, false, false, false, false, false, false, false, false, false, false, false, false, false, false, false, false, false, false, false, false, false] (by omega) (Nat.le_of_ble_eq_true rfl) ?_ ?_ <;> first | (simp only [go_sem, seval, reduceCtorEq, dropF_ch, dropF_cons, dropF_nil, cut, cond_true, cond_false, Int.natCast_zero, Int.natCast_add, Int.natCast_one, e, List.length_append]; done) | rfl | (simp only [go_sem, seval, reduceCtorEq, dropF_ch, dropF_cons, dropF_nil, cut, cond_true, cond_false, Int.natCast_zero, Int.natCast_add, Int.natCast_one, e, List.length_append]; rfl) | skip)
  have d4 : ¬ (k : Int) < N.os.length := by omega
  obtain rfl : k = N.os.length := by omega
  simp (disch := omega) only [go_sem, seval, reduceCtorEq, d4, List.take_length]
  have hp0 : N.os.filter (anyL (subT N.ts l)) ++ pickTo (subQ N l) 0 = N.os.filter (anyL (subT N.ts l)) := by rw [pickTo_zero, List.append_nil]
  refine wpN_lp (100) [false, false, false, false, false, false, false, false, false, false, false, false, false, false, false, false, false, true, false, false, false, false, false, false, false, false, false, false, false, false, false, false, false, false, false, false, false, false, false, false, false, false, false, false, false, false, false, false, false, false, false, false, false, false, false, false, false, false, false, false, false, false, false, false, false, false, false, false, false, false, false, false, false, false, false, false, false, false, false, false, false, false, false, false, false, false, false, false, false, false, false, false, false, false, false, false, false, false, false, false, false, false, false, false, false, false, false, false, false, false, false, false, false, false, false, false, false, true, true, true, true, true, true, true, true, true, true, true, true, true, true, true, true, true, true, true, true, true, true, true, true, false, false, false, false, false] (fun k => [(116, .d (.int k))]) (fun k => [(2, [.d (.int N.k), .d (.int N.p), .d (.int N.n), .own 5 0 l.length, .own 6 0 (N.os.filter (anyL (subT N.ts l)) ++ pickTo (subQ N l) k).length]), (6, iv (N.os.filter (anyL (subT N.ts l)) ++ pickTo (subQ N l) k))]) (fun _ => by (simp only [go_sem, seval, reduceCtorEq, dropF_ch, dropF_cons, dropF_nil, cut, cond_true, cond_false]); first | done | rfl) (fun _ => by (simp only [go_sem, seval, reduceCtorEq, cut]); first | done | rfl) (Nat.le_of_ble_eq_true rfl) (by first | (simp only [go_sem, seval, reduceCtorEq, dropF_ch, dropF_cons, dropF_nil, cut, cond_true, cond_false, Int.natCast_zero, Int.natCast_add, Int.natCast_one, hp0]; done) | rfl | (simp only [go_sem, seval, reduceCtorEq, dropF_ch, dropF_cons, dropF_nil, cut, cond_true, cond_false, Int.natCast_zero, Int.natCast_add, Int.natCast_one, hp0]; rfl)) (by first | (simp only [go_sem, seval, reduceCtorEq, dropF_ch, dropF_cons, dropF_nil, cut, cond_true, cond_false, Int.natCast_zero, Int.natCast_add, Int.natCast_one, hp0]; done) | rfl | (simp only [go_sem, seval, reduceCtorEq, dropF_ch, dropF_cons, dropF_nil, cut, cond_true, cond_false, Int.natCast_zero, Int.natCast_add, Int.natCast_one, hp0]; rfl)) fun k hk => ?_
  unfold L0_impl_SubNetwork
  have hfl := List.length_filter_le (anyL (subT N.ts l)) N.os
  have hpl := pickTo_len (subQ N l) k
  have hal : (N.os.filter (anyL (subT N.ts l)) ++ pickTo (subQ N l) k).length = (N.os.filter (anyL (subT N.ts l))).length + (pickTo (subQ N l) k).length := List.length_append
  by_cases hlt : k < 100
  · have d5 : (k : Int) < 100 := by omega
    have g1 := bits_get (anyN (subT N.ts l)) hlt
    have g2 := bits_get (anyN (outT N.ts l N.ts.length)) hlt
    have hq : subQ N l k = (anyN (subT N.ts l) k && (anyN (outT N.ts l N.ts.length) k && !has N.os k)) := rfl
    cases q1 : anyN (subT N.ts l) k
    · have e : subQ N l k = false := by rw [hq, q1]; rfl
      simp (disch := omega) only [go_sem, seval, reduceCtorEq, d5, g1, q1]
      (repeat (refine And.intro (by omega) ?_))
      (refine Next.drop [false, false, false, false, false, false, false, false, false, false, false, false, false, false, false, false, false, true, false, false, false, false, false, false, false, false, false, false, false, false, false, false, false, false, false, false, false, false, false, false, false, false, false, false, false, false, false, false, false, false, false, false, false, false, false, false, false, false, false, false, false, false, false, false, false, false, false, false, false, false, false, false, false, false, false, false, false, false, false, false, false, false, false, false, false, false, false, false, false, false, false, false, false, false, false, false, false, false, false, false, false, false, false, false, false, false, false, false, false, false, false, false, false, false, false, false, false, true, true, true, true, true, true, true, true, true, true, true, true, true, true, true, true, true, true, true, true, true, true, true, true, false, false, false, false, false] (by omega) (Nat.le_of_ble_eq_true rfl) ?_ ?_ <;> first | (simp only [go_sem, seval, reduceCtorEq, dropF_ch, dropF_cons, dropF_nil, cut, cond_true, cond_false, Int.natCast_zero, Int.natCast_add, Int.natCast_one, pickTo_no e]; done) | rfl | (simp only [go_sem, seval, reduceCtorEq, dropF_ch, dropF_cons, dropF_nil, cut, cond_true, cond_false, Int.natCast_zero, Int.natCast_add, Int.natCast_one, pickTo_no e]; rfl) | skip)
    cases q2 : anyN (outT N.ts l N.ts.length) k
    · have e : subQ N l k = false := by rw [hq, q1, q2]; rfl
      simp (disch := omega) only [go_sem, seval, reduceCtorEq, d5, g1, q1, g2, q2]
      (repeat (refine And.intro (by omega) ?_))
      (refine Next.drop [false, false, false, false, false, false, false, false, false, false, false, false, false, false, false, false, false, true, false, false, false, false, false, false, false, false, false, false, false, false, false, false, false, false, false, false, false, false, false, false, false, false, false, false, false, false, false, false, false, false, false, false, false, false, false, false, false, false, false, false, false, false, false, false, false, false, false, false, false, false, false, false, false, false, false, false, false, false, false, false, false, false, false, false, false, false, false, false, false, false, false, false, false, false, false, false, false, false, false, false, false, false, false, false, false, false, false, false, false, false, false, false, false, false, false, false, false, true, true, true, true, true, true, true, true, true, true, true, true, true, true, true, true, true, true, true, true, true, true, true, true, false, false, false, false, false] (by omega) (Nat.le_of_ble_eq_true rfl) ?_ ?_ <;> first | (simp only [go_sem, seval, reduceCtorEq, dropF_ch, dropF_cons, dropF_nil, cut, cond_true, cond_false, Int.natCast_zero, Int.natCast_add, Int.natCast_one, pickTo_no e]; done) | rfl | (simp only [go_sem, seval, reduceCtorEq, dropF_ch, dropF_cons, dropF_nil, cut, cond_true, cond_false, Int.natCast_zero, Int.natCast_add, Int.natCast_one, pickTo_no e]; rfl) | skip)
    simp (disch := omega) only [go_sem, seval, reduceCtorEq, d5, g1, q1, g2, q2]
    (repeat (refine And.intro (by omega) ?_))
    (refine ti_call (hasInt_d (xs := N.os) (x := (k : Int)) (by omega)) ?_ ?_ ?_; (focus (simp only [go_sem, seval, reduceCtorEq]; done)); (first | rfl | (focus (simp only [go_sem]; done))))
    cases q3 : has N.os k
    · have e : subQ N l k = true := by rw [hq, q1, q2, q3]; rfl
      simp (disch := omega) only [go_sem, seval, reduceCtorEq, q3]
      (repeat (refine And.intro (by omega) ?_))
      (refine Next.drop [false, false, false, false, false, false, false, false, false, false, false, false, false, false, false, false, false, true, false, false, false, false, false, false, false, false, false, false, false, false, false, false, false, false, false, false, false, false, false, false, false, false, false, false, false, false, false, false, false, false, false, false, false, false, false, false, false, false, false, false, false, false, false, false, false, false, false, false, false, false, false, false, false, false, false, false, false, false, false, false, false, false, false, false, false, false, false, false, false, false, false, false, false, false, false, false, false, false, false, false, false, false, false, false, false, false, false, false, false, false, false, false, false, false, false, false, false, true, true, true, true, true, true, true, true, true, true, true, true, true, true, true, true, true, true, true, true, true, true, true, true, false, false, false, false, false] (by omega) (Nat.le_of_ble_eq_true rfl) ?_ ?_ <;> first | (simp only [go_sem, seval, reduceCtorEq, dropF_ch, dropF_cons, dropF_nil, cut, cond_true, cond_false, Int.natCast_zero, Int.natCast_add, Int.natCast_one, pickTo_yes e, List.length_append, ← List.append_assoc]; done) | rfl | (simp only [go_sem, seval, reduceCtorEq, dropF_ch, dropF_cons, dropF_nil, cut, cond_true, cond_false, Int.natCast_zero, Int.natCast_add, Int.natCast_one, pickTo_yes e, List.length_append, ← List.append_assoc]; rfl) | skip)
    · have e : subQ N l k = false := by rw [hq, q1, q2, q3]; rfl
      simp (disch := omega) only [go_sem, seval, reduceCtorEq, q3]
      (refine Next.drop [false, false, false, false, false, false, false, false, false, false, false, false, false, false, false, false, false, true, false, false, false, false, false, false, false, false, false, false, false, false, false, false, false, false, false, false, false, false, false, false, false, false, false, false, false, false, false, false, false, false, false, false, false, false, false, false, false, false, false, false, false, false, false, false, false, false, false, false, false, false, false, false, false, false, false, false, false, false, false, false, false, false, false, false, false, false, false, false, false, false, false, false, false, false, false, false, false, false, false, false, false, false, false, false, false, false, false, false, false, false, false, false, false, false, false, false, false, true, true, true, true, true, true, true, true, true, true, true, true, true, true, true, true, true, true, true, true, true, true, true, true, false, false, false, false, false] (by omega) (Nat.le_of_ble_eq_true rfl) ?_ ?_ <;> first | (simp only [go_sem, seval, reduceCtorEq, dropF_ch, dropF_cons, dropF_nil, cut, cond_true, cond_false, Int.natCast_zero, Int.natCast_add, Int.natCast_one, pickTo_no e]; done) | rfl | (simp only [go_sem, seval, reduceCtorEq, dropF_ch, dropF_cons, dropF_nil, cut, cond_true, cond_false, Int.natCast_zero, Int.natCast_add, Int.natCast_one, pickTo_no e]; rfl) | skip)
  have d5 : ¬ (k : Int) < 100 := by omega
  obtain rfl : k = 100 := by omega
  have hsz := subN0_sz h hok hlo
  have hsO : N.os.filter (anyL (subT N.ts l)) ++ pickTo (subQ N l) 100 = subO N l := rfl
  have hsl := subT_len N.ts l
  have htk : (tcA (subT N.ts l)).take (l.length * 3) = tcA (subT N.ts l) := List.take_of_length_le (by rw [tcA_len, hsl]; exact Nat.le_refl _)
  simp (disch := omega) only [go_sem, seval, reduceCtorEq, d5, hsO]
  (refine ti_call (iNetworkOk_d (N := subN0 N l) hsz) ?_ ?_ ?_; (focus (simp only [go_sem, seval, reduceCtorEq, subN0, hsl, htk]; done)); (first | rfl | (focus (simp only [go_sem]; done))))
  cases h5 : netOk (subN0 N l)
  · have e : subB N l = false := by simp [subB, h5]
    simp only [go_sem, seval, reduceCtorEq, h5, e, subN, cond_false]
    refine FnEnd.wk (Wk.trans (Wk.nilS 1 3 3 _ _ _ rfl rfl) (Wk.nilS 1 4 1 _ _ _ rfl rfl)) ?_
    (refine FnEnd.mk (Nat.le_of_ble_eq_true rfl) rfl (of_decide_eq_true rfl) ?_ ?_ <;> try simp only [go_sem, seval, reduceCtorEq])
  · have e : subB N l = true := by simp [subB, hok, hlo, h5]
    simp only [go_sem, seval, reduceCtorEq, h5, e, subN, cond_true, subN0, hsl]
    (refine FnEnd.mk (Nat.le_of_ble_eq_true rfl) rfl (of_decide_eq_true rfl) ?_ ?_ <;> try simp only [go_sem, seval, reduceCtorEq])
theorem outT_ax {ts : List Ten} {l : List Int} (h : axOks ts) : axOks (outT ts l ts.length) := fun t ht => h t (pickT_sub (Nat.le_refl _) ht)
theorem subT_ax {ts : List Ten} {l : List Int} (h : axOks ts) (hl : subOkL ts.length l = true) : axOks (subT ts l) := fun t ht => h t (subT_mem (subOkL_mem hl) ht)
theorem subQ_eq {N : Net} {l : List Int} (h : axOks N.ts) (hl : subOkL N.ts.length l = true) (i : Nat) : (labP (subT N.ts l) i && (!has N.os i && decide (dimN (outT N.ts l N.ts.length) i > 0))) = subQ N l i := by
  have hb := dimN_bd (outT_ax (l := l) h) i
  rw [subQ, anyL_dim (subT_ax h hl), anyL_dim (outT_ax h), labP]
  have e : decide (dimN (outT N.ts l N.ts.length) i > 0) = (dimN (outT N.ts l N.ts.length) i != 0) := by
    rcases hb with e | e
    · simp [e]
    · have e1 : dimN (outT N.ts l N.ts.length) i > 0 := by omega
      have e2 : dimN (outT N.ts l N.ts.length) i ≠ 0 := by omega
      simp [e1, e2]
  rw [e, Bool.and_comm (!has N.os i)]
set_option maxHeartbeats 1600000 in
theorem l13Sub_d {N : Net} {l : List Int} (h : NSz 1048576 N) (hok : netOk N = true) (hlo : subOkL N.ts.length l = true) (hll : l.length ≤ 1048576) : Does Try.prog 64 [netA N, .d (ints l)] [] (ownN 0 (subN0 N l)) (stoN (subN0 N l)) := by
  have hnl := h.l
  have hol := h.o.len
  have hax := netOk_ax hok
  have hlm := subOkL_mem hlo
  have hsax := subT_ax hax hlo
  have hoax := outT_ax (l := l) hax
  have hsz : ∀ t ∈ subT N.ts l, TSz 1048576 t := fun t ht => h.t t (subT_mem hlm ht)
  have hoz : ∀ t ∈ outT N.ts l N.ts.length, TSz 1048576 t := fun t ht => h.t t (pickT_sub (Nat.le_refl _) ht)
  (refine spec_of (by kernel_rfl) Try.func64 k_spec_l13Sub (fnOk (Nat.le_of_ble_eq_true rfl) ?_); unfold C_spec_l13Sub)
  (simp only [Nat.reduceSub, List.length_cons, List.length_nil, Nat.reduceAdd, ch_init1, ch_init2, ch_init3, ch_init4, ch_init5, ch_init6, ch_init7, ch_init8]; try simp only [ch_rep]); (simp only [go_sem, seval, reduceCtorEq, List.replicate])
  (refine wpN_lwk (Wk.nilS 2 3 3 _ _ _ rfl rfl) ?_; simp only [go_sem, seval, reduceCtorEq])
  refine wpN_lp (l.length) [false, false, false, false, false, false, false, false, true, false, false, false, false, false, false, false, false, false, false, false, false, false, true, true, true, true, true, true, true, true, true, true, true, true, true, true, true, false, false, false, false, false, false, false, false, false, false, false, false, false, false, false, false, false, false, false, false, false, false, false, false, false, false, false, false, false, false, false, false, false, false, false, false, false, false, false, false, false, false, false, false, false, false, false, false, false, false, false, false, false, false, false, false, false, false, false, false, false, false, false] (fun k => [(21, .d (.int k))]) (fun k => [(2, [.d (.int N.k), .d (.int N.p), .d (.int N.n), .own 4 0 k, .nil]), (4, tcA (subT N.ts (l.take k)))]) (fun _ => by (simp only [go_sem, seval, reduceCtorEq, dropF_ch, dropF_cons, dropF_nil, cut, cond_true, cond_false]); first | done | rfl) (fun _ => by (simp only [go_sem, seval, reduceCtorEq, cut]); first | done | rfl) (Nat.le_of_ble_eq_true rfl) (by first | (simp only [go_sem, seval, reduceCtorEq, dropF_ch, dropF_cons, dropF_nil, cut, cond_true, cond_false, Int.natCast_zero, Int.natCast_add, Int.natCast_one, List.take_zero, subT_nil, tcA_nil]; done) | rfl | (simp only [go_sem, seval, reduceCtorEq, dropF_ch, dropF_cons, dropF_nil, cut, cond_true, cond_false, Int.natCast_zero, Int.natCast_add, Int.natCast_one, List.take_zero, subT_nil, tcA_nil]; rfl)) (by first | (simp only [go_sem, seval, reduceCtorEq, dropF_ch, dropF_cons, dropF_nil, cut, cond_true, cond_false, Int.natCast_zero, Int.natCast_add, Int.natCast_one, List.take_zero, subT_nil, tcA_nil]; done) | rfl | (simp only [go_sem, seval, reduceCtorEq, dropF_ch, dropF_cons, dropF_nil, cut, cond_true, cond_false, Int.natCast_zero, Int.natCast_add, Int.natCast_one, List.take_zero, subT_nil, tcA_nil]; rfl)) fun k hk => ?_
  unfold L3_spec_l13Sub
  by_cases hlt : k < l.length
  · have d2 : (k : Int) < l.length := by omega
    have g : l[k]? = some l[k] := List.getElem?_eq_getElem hlt
    have hb := hlm l[k] (List.getElem_mem hlt)
    obtain ⟨i, hi⟩ : ∃ i : Nat, l[k] = i := ⟨l[k].toNat, by omega⟩
    have hin : i < N.ts.length := by omega
    have d3 : (i : Int) < N.ts.length := by omega
    have g3 := tcs_cut (List.getElem?_eq_getElem hin)
    have hst := h.t N.ts[i] (List.getElem_mem hin)
    have hix : l[k].toNat < N.ts.length := by omega
    have hnx := subT_next hlt hix
    simp only [hi, Int.toNat_natCast] at hnx
    have hsl : (subT N.ts (l.take k)).length = k := by rw [subT_len, List.length_take]; omega
    simp (disch := omega) only [go_sem, seval, reduceCtorEq, d2, g, hi, d3, g3]
    (repeat (refine And.intro (by omega) ?_))
    (refine gi_call (l05Copy_d (t := N.ts[i]) hst) ?_ ?_ ?_; (focus (simp only [go_sem, seval, reduceCtorEq]; done)); (first | rfl | (focus (simp only [go_sem]; done))))
    simp (disch := omega) only [go_sem, seval, reduceCtorEq, hsl]
    (repeat (refine And.intro (by omega) ?_))
    (refine Next.mk (by omega) (Wk.trans (Wk.drG [5, 6, 7] 5 (Nat.le_of_ble_eq_true rfl) (Nat.le_of_ble_eq_true rfl) (of_decide_eq_true rfl) (of_decide_eq_true rfl)) ?_)); (simp only [go_sem, seval, reduceCtorEq, dropG_ch, dropG_cons, dropG_nil, cond_true, cond_false, Int.natCast_zero, Int.natCast_add, Int.natCast_one, hnx, tcA_app, tcA_one]); (refine Wk.eq (Wk.ad3s [false, false, false, false, false, false, false, false, true, false, false, false, false, false, false, false, false, false, false, false, false, false, true, true, true, true, true, true, true, true, true, true, true, true, true, true, true, false, false, false, false, false, false, false, false, false, false, false, false, false, false, false, false, false, false, false, false, false, false, false, false, false, false, false, false, false, false, false, false, false, false, false, false, false, false, false, false, false, false, false, false, false, false, false, false, false, false, false, false, false, false, false, false, false, false, false, false, false, false, false] 4 3 (k * 3) true (τ := [_, _, _, _, _]) (Nat.le_of_ble_eq_true rfl) rfl (by rw [tcA_len, hsl]) rfl (treL_iv _) (treL_iv _) (treL_iv _) (by simp only [go_sem, seval, reduceCtorEq]) (by simp only [go_sem, seval, reduceCtorEq]) (by simp only [go_sem, seval, reduceCtorEq]) (fun _ => rnL_iv _) (fun _ => rnL_iv _)) ?_ ?_ <;> first | (simp only [go_sem, seval, reduceCtorEq, dropF_ch, dropF_cons, dropF_nil, cut, cond_true, cond_false, Int.natCast_zero, Int.natCast_add, Int.natCast_one, hnx, tcA_app, tcA_one]; done) | rfl | (simp only [go_sem, seval, reduceCtorEq, dropF_ch, dropF_cons, dropF_nil, cut, cond_true, cond_false, Int.natCast_zero, Int.natCast_add, Int.natCast_one, hnx, tcA_app, tcA_one]; rfl) | skip)
  have d2 : ¬ (k : Int) < l.length := by omega
  obtain rfl : k = l.length := by omega
  simp (disch := omega) only [go_sem, seval, reduceCtorEq, d2, List.take_length]
  have hzo : outT N.ts l 0 = [] := rfl
  refine wpN_lp (N.ts.length) [false, false, false, false, false, false, false, false, false, true, true, false, false, false, false, false, false, false, true, false, false, false, false, false, false, false, false, false, false, false, false, false, false, false, false, false, false, false, false, false, false, true, true, true, true, true, true, true, true, true, true, true, true, true, false, false, false, false, false, false, false, false, false, false, false, false, false, false, false, false, false, false, false, false, false, false, false, false, false, false, false, false, false, false, false, false, false, false, false, false, false, false, false, false, false, false, false, false, false, false] (fun k => [(40, .d (.int k)), (6, .own 3 0 (outT N.ts l k).length)]) (fun k => [(3, tcD (outT N.ts l k))]) (fun _ => by (simp only [go_sem, seval, reduceCtorEq, dropF_ch, dropF_cons, dropF_nil, cut, cond_true, cond_false]); first | done | rfl) (fun _ => by (simp only [go_sem, seval, reduceCtorEq, cut]); first | done | rfl) (Nat.le_of_ble_eq_true rfl) (by first | (simp only [go_sem, seval, reduceCtorEq, dropF_ch, dropF_cons, dropF_nil, cut, cond_true, cond_false, Int.natCast_zero, Int.natCast_add, Int.natCast_one, hzo, tcD_nil]; done) | rfl | (simp only [go_sem, seval, reduceCtorEq, dropF_ch, dropF_cons, dropF_nil, cut, cond_true, cond_false, Int.natCast_zero, Int.natCast_add, Int.natCast_one, hzo, tcD_nil]; rfl)) (by first | (simp only [go_sem, seval, reduceCtorEq, dropF_ch, dropF_cons, dropF_nil, cut, cond_true, cond_false, Int.natCast_zero, Int.natCast_add, Int.natCast_one, hzo, tcD_nil]; done) | rfl | (simp only [go_sem, seval, reduceCtorEq, dropF_ch, dropF_cons, dropF_nil, cut, cond_true, cond_false, Int.natCast_zero, Int.natCast_add, Int.natCast_one, hzo, tcD_nil]; rfl)) fun k hk => ?_
  unfold L2_spec_l13Sub
  have hpl : (outT N.ts l k).length ≤ k := pickT_len _ _ _
  by_cases hlt : k < N.ts.length
  · have d3 : (k : Int) < N.ts.length := by omega
    have g3 := tcs_cut (List.getElem?_eq_getElem hlt)
    simp (disch := omega) only [go_sem, seval, reduceCtorEq, d3, g3]
    (repeat (refine And.intro (by omega) ?_))
    (refine ti_call (l05Find_d (xs := l) (x := (k : Int)) (by omega)) ?_ ?_ ?_; (focus (simp only [go_sem, seval, reduceCtorEq]; done)); (first | rfl | (focus (simp only [go_sem]; done))))
    by_cases hm : (k : Int) ∈ l
    · have c : ¬ place l k < 0 := fun e => place_neg.1 e hm
      have hp : outT N.ts l (k + 1) = outT N.ts l k := pickT_no (by simp [has_true.2 hm])
      simp (disch := omega) only [go_sem, seval, reduceCtorEq, c]
      (refine Next.drop [false, false, false, false, false, false, false, false, false, true, true, false, false, false, false, false, false, false, true, false, false, false, false, false, false, false, false, false, false, false, false, false, false, false, false, false, false, false, false, false, false, true, true, true, true, true, true, true, true, true, true, true, true, true, false, false, false, false, false, false, false, false, false, false, false, false, false, false, false, false, false, false, false, false, false, false, false, false, false, false, false, false, false, false, false, false, false, false, false, false, false, false, false, false, false, false, false, false, false, false] (by omega) (Nat.le_of_ble_eq_true rfl) ?_ ?_ <;> first | (simp only [go_sem, seval, reduceCtorEq, dropF_ch, dropF_cons, dropF_nil, cut, cond_true, cond_false, Int.natCast_zero, Int.natCast_add, Int.natCast_one, hp]; done) | rfl | (simp only [go_sem, seval, reduceCtorEq, dropF_ch, dropF_cons, dropF_nil, cut, cond_true, cond_false, Int.natCast_zero, Int.natCast_add, Int.natCast_one, hp]; rfl) | skip)
    · have c : place l k < 0 := place_neg.2 hm
      have hp : outT N.ts l (k + 1) = outT N.ts l k ++ [N.ts[k]] := pickT_yes (by simp [has_false.2 hm]) hlt
      simp (disch := omega) only [go_sem, seval, reduceCtorEq, c]
      (repeat (refine And.intro (by omega) ?_))
      (refine Next.drop [false, false, false, false, false, false, false, false, false, true, true, false, false, false, false, false, false, false, true, false, false, false, false, false, false, false, false, false, false, false, false, false, false, false, false, false, false, false, false, false, false, true, true, true, true, true, true, true, true, true, true, true, true, true, false, false, false, false, false, false, false, false, false, false, false, false, false, false, false, false, false, false, false, false, false, false, false, false, false, false, false, false, false, false, false, false, false, false, false, false, false, false, false, false, false, false, false, false, false, false] (by omega) (Nat.le_of_ble_eq_true rfl) ?_ ?_ <;> first | (simp only [go_sem, seval, reduceCtorEq, dropF_ch, dropF_cons, dropF_nil, cut, cond_true, cond_false, Int.natCast_zero, Int.natCast_add, Int.natCast_one, hp, ← tcD_snoc, List.length_append]; done) | rfl | (simp only [go_sem, seval, reduceCtorEq, dropF_ch, dropF_cons, dropF_nil, cut, cond_true, cond_false, Int.natCast_zero, Int.natCast_add, Int.natCast_one, hp, ← tcD_snoc, List.length_append]; rfl) | skip)
  have d3 : ¬ (k : Int) < N.ts.length := by omega
  obtain rfl : k = N.ts.length := by omega
  simp (disch := omega) only [go_sem, seval, reduceCtorEq, d3]
  have hsl := subT_len N.ts l
  have htk : (tcA (subT N.ts l)).take (l.length * 3) = tcA (subT N.ts l) := List.take_of_length_le (by rw [tcA_len, hsl]; exact Nat.le_refl _)
  (refine wpN_lwk (Wk.nilS 2 4 1 _ _ _ rfl rfl) ?_; simp only [go_sem, seval, reduceCtorEq])
  refine wpN_lp (N.os.length) [false, false, false, false, false, false, false, false, false, false, false, false, true, false, false, false, false, false, false, false, false, false, false, false, false, false, false, false, false, false, false, false, false, false, false, false, false, false, false, false, false, false, false, false, false, false, false, false, false, false, false, false, false, false, false, false, false, false, true, true, true, true, true, true, true, true, true, true, true, true, true, true, true, false, false, false, false, false, false, false, false, false, false, false, false, false, false, false, false, false, false, false, false, false, false, false, false, false, false, false] (fun k => [(57, .d (.int k))]) (fun k => [(2, [.d (.int N.k), .d (.int N.p), .d (.int N.n), .own 4 0 l.length, .own 5 0 ((N.os.take k).filter (anyL (subT N.ts l))).length]), (5, iv ((N.os.take k).filter (anyL (subT N.ts l))))]) (fun _ => by (simp only [go_sem, seval, reduceCtorEq, dropF_ch, dropF_cons, dropF_nil, cut, cond_true, cond_false]); first | done | rfl) (fun _ => by (simp only [go_sem, seval, reduceCtorEq, cut]); first | done | rfl) (Nat.le_of_ble_eq_true rfl) (by first | (simp only [go_sem, seval, reduceCtorEq, dropF_ch, dropF_cons, dropF_nil, cut, cond_true, cond_false, Int.natCast_zero, Int.natCast_add, Int.natCast_one, List.take_zero, List.filter_nil, iv_nil]; done) | rfl | (simp only [go_sem, seval, reduceCtorEq, dropF_ch, dropF_cons, dropF_nil, cut, cond_true, cond_false, Int.natCast_zero, Int.natCast_add, Int.natCast_one, List.take_zero, List.filter_nil, iv_nil]; rfl)) (by first | (simp only [go_sem, seval, reduceCtorEq, dropF_ch, dropF_cons, dropF_nil, cut, cond_true, cond_false, Int.natCast_zero, Int.natCast_add, Int.natCast_one, List.take_zero, List.filter_nil, iv_nil]; done) | rfl | (simp only [go_sem, seval, reduceCtorEq, dropF_ch, dropF_cons, dropF_nil, cut, cond_true, cond_false, Int.natCast_zero, Int.natCast_add, Int.natCast_one, List.take_zero, List.filter_nil, iv_nil]; rfl)) fun k hk => ?_
  unfold L1_spec_l13Sub
  have hfl := filter_len N.os k (anyL (subT N.ts l))
  by_cases hlt : k < N.os.length
  · have d4 : (k : Int) < N.os.length := by omega
    have g : N.os[k]? = some N.os[k] := List.getElem?_eq_getElem hlt
    simp (disch := omega) only [go_sem, seval, reduceCtorEq, d4, g]
    (refine ti_call (l12Dim_d (ts := subT N.ts l) (x := N.os[k]) (by omega) hsz hsax) ?_ ?_ ?_; (focus (simp only [go_sem, seval, reduceCtorEq, hsl, htk]; done)); (first | rfl | (focus (simp only [go_sem]; done))))
    have hbd := dimN_bd hsax N.os[k]
    have hal := anyL_dim hsax N.os[k]
    by_cases hd : dimN (subT N.ts l) N.os[k] > 0
    · have hh : anyL (subT N.ts l) N.os[k] = true := by rw [hal]; simp; omega
      have e := filter_yes (p := anyL (subT N.ts l)) hlt hh
      simp (disch := omega) only [go_sem, seval, reduceCtorEq, hd]
      (repeat (refine And.intro (by omega) ?_))
      (refine Next.drop [false, false, false, false, false, false, false, false, false, false, false, false, true, false, false, false, false, false, false, false, false, false, false, false, false, false, false, false, false, false, false, false, false, false, false, false, false, false, false, false, false, false, false, false, false, false, false, false, false, false, false, false, false, false, false, false, false, false, true, true, true, true, true, true, true, true, true, true, true, true, true, true, true, false, false, false, false, false, false, false, false, false, false, false, false, false, false, false, false, false, false, false, false, false, false, false, false, false, false, false] (by omega) (Nat.le_of_ble_eq_true rfl) ?_ ?_ <;> first | (simp only [go_sem, seval, reduceCtorEq, dropF_ch, dropF_cons, dropF_nil, cut, cond_true, cond_false, Int.natCast_zero, Int.natCast_add, Int.natCast_one, e, List.length_append]; done) | rfl | (simp only [go_sem, seval, reduceCtorEq, dropF_ch, dropF_cons, dropF_nil, cut, cond_true, cond_false, Int.natCast_zero, Int.natCast_add, Int.natCast_one, e, List.length_append]; rfl) | skip)
    · have hh : anyL (subT N.ts l) N.os[k] = false := by rw [hal]; simp; omega
      have e := filter_no (p := anyL (subT N.ts l)) hlt hh
      simp (disch := omega) only [go_sem, seval, reduceCtorEq, hd]
      (refine Next.drop [false, false, false, false, false, false, false, false, false, false, false, false, true, false, false, false, false, false, false, false, false, false, false, false, false, false, false, false, false, false, false, false, false, false, false, false, false, false, false, false, false, false, false, false, false, false, false, false, false, false, false, false, false, false, false, false, false, false, true, true, true, true, true, true, true, true, true, true, true, true, true, true, true, false, false, false, false, false, false, false, false, false, false, false, false, false, false, false, false, false, false, false, false, false, false, false, false, false, false, false] (by omega) (Nat.le_of_ble_eq_true rfl) ?_ ?_ <;> first | (simp only [go_sem, seval, reduceCtorEq, dropF_ch, dropF_cons, dropF_nil, cut, cond_true, cond_false, Int.natCast_zero, Int.natCast_add, Int.natCast_one, e]; done) | rfl | (simp only [go_sem, seval, reduceCtorEq, dropF_ch, dropF_cons, dropF_nil, cut, cond_true, cond_false, Int.natCast_zero, Int.natCast_add, Int.natCast_one, e]; rfl) | skip)
  have d4 : ¬ (k : Int) < N.os.length := by omega
  obtain rfl : k = N.os.length := by omega
  simp (disch := omega) only [go_sem, seval, reduceCtorEq, d4, List.take_length]
  (refine ti_call (l12Labels_d (ts := subT N.ts l) (by omega) hsz hsax) ?_ ?_ ?_; (focus (simp only [go_sem, seval, reduceCtorEq, hsl, htk]; done)); (first | rfl | (focus (simp only [go_sem]; done))))
  have hfil : ∀ L : List Int, L = pickTo (labP (subT N.ts l)) 100 → L.filter (fun x => !has N.os x && decide (dimN (outT N.ts l N.ts.length) x > 0)) = pickTo (subQ N l) 100 := fun L e => by
    subst e
    have e1 := filter_pickTo (labP (subT N.ts l)) (fun i => !has N.os i && decide (dimN (outT N.ts l N.ts.length) i > 0)) 100
    rw [pickTo_congr fun i _ => subQ_eq hax hlo i] at e1
    rw [← e1]
    refine List.filter_congr fun x hx => ?_
    obtain ⟨i, _, _, rfl⟩ := pickTo_mem hx
    simp
  have hLl := pickTo_len (labP (subT N.ts l)) 100
  simp (disch := omega) only [go_sem, seval, reduceCtorEq]
  generalize hLe : pickTo (labP (subT N.ts l)) 100 = L at *
  have hfl := hfil L rfl
  have hA0 := List.length_filter_le (anyL (subT N.ts l)) N.os
  generalize hAe : N.os.filter (anyL (subT N.ts l)) = A at *
  refine wpN_lp (L.length) [false, false, false, false, false, false, false, false, false, false, false, false, false, false, true, false, false, false, false, false, false, false, false, false, false, false, false, false, false, false, false, false, false, false, false, false, false, false, false, false, false, false, false, false, false, false, false, false, false, false, false, false, false, false, false, false, false, false, false, false, false, false, false, false, false, false, false, false, false, false, false, false, false, false, false, false, false, false, true, true, true, true, true, true, true, true, true, true, true, true, true, true, true, true, true, true, true, true, true, false] (fun k => [(77, .d (.int k))]) (fun k => [(2, [.d (.int N.k), .d (.int N.p), .d (.int N.n), .own 4 0 l.length, .own 5 0 (A ++ (L.take k).filter (fun x => !has N.os x && decide (dimN (outT N.ts l N.ts.length) x > 0))).length]), (5, iv (A ++ (L.take k).filter (fun x => !has N.os x && decide (dimN (outT N.ts l N.ts.length) x > 0))))]) (fun _ => by (simp only [go_sem, seval, reduceCtorEq, dropF_ch, dropF_cons, dropF_nil, cut, cond_true, cond_false]); first | done | rfl) (fun _ => by (simp only [go_sem, seval, reduceCtorEq, cut]); first | done | rfl) (Nat.le_of_ble_eq_true rfl) (by first | (simp only [go_sem, seval, reduceCtorEq, dropF_ch, dropF_cons, dropF_nil, cut, cond_true, cond_false, Int.natCast_zero, Int.natCast_add, Int.natCast_one, List.take_zero, List.filter_nil, List.append_nil]; done) | rfl | (simp only [go_sem, seval, reduceCtorEq, dropF_ch, dropF_cons, dropF_nil, cut, cond_true, cond_false, Int.natCast_zero, Int.natCast_add, Int.natCast_one, List.take_zero, List.filter_nil, List.append_nil]; rfl)) (by first | (simp only [go_sem, seval, reduceCtorEq, dropF_ch, dropF_cons, dropF_nil, cut, cond_true, cond_false, Int.natCast_zero, Int.natCast_add, Int.natCast_one, List.take_zero, List.filter_nil, List.append_nil]; done) | rfl | (simp only [go_sem, seval, reduceCtorEq, dropF_ch, dropF_cons, dropF_nil, cut, cond_true, cond_false, Int.natCast_zero, Int.natCast_add, Int.natCast_one, List.take_zero, List.filter_nil, List.append_nil]; rfl)) fun k hk => ?_
  unfold L0_spec_l13Sub
  have hff := filter_len L k (fun x => !has N.os x && decide (dimN (outT N.ts l N.ts.length) x > 0))
  have hal : (A ++ (L.take k).filter (fun x => !has N.os x && decide (dimN (outT N.ts l N.ts.length) x > 0))).length = A.length + ((L.take k).filter (fun x => !has N.os x && decide (dimN (outT N.ts l N.ts.length) x > 0))).length := List.length_append
  have hp2 : (outT N.ts l N.ts.length).length ≤ N.ts.length := pickT_len _ _ _
  by_cases hq : k < L.length
  · have d5 : (k : Int) < L.length := by omega
    have g : L[k]? = some L[k] := List.getElem?_eq_getElem hq
    simp (disch := omega) only [go_sem, seval, reduceCtorEq, d5, g]
    (refine ti_call (l05Find_d (xs := N.os) (x := L[k]) h.o.up.len) ?_ ?_ ?_; (focus (simp only [go_sem, seval, reduceCtorEq]; done)); (first | rfl | (focus (simp only [go_sem]; done))))
    by_cases hm : L[k] ∈ N.os
    · have c : ¬ place N.os L[k] < 0 := fun e => place_neg.1 e hm
      have e := filter_no (p := fun x => !has N.os x && decide (dimN (outT N.ts l N.ts.length) x > 0)) hq (by simp only [has_true.2 hm, Bool.not_true, Bool.false_and])
      simp (disch := omega) only [go_sem, seval, reduceCtorEq, c]
      (refine Next.drop [false, false, false, false, false, false, false, false, false, false, false, false, false, false, true, false, false, false, false, false, false, false, false, false, false, false, false, false, false, false, false, false, false, false, false, false, false, false, false, false, false, false, false, false, false, false, false, false, false, false, false, false, false, false, false, false, false, false, false, false, false, false, false, false, false, false, false, false, false, false, false, false, false, false, false, false, false, false, true, true, true, true, true, true, true, true, true, true, true, true, true, true, true, true, true, true, true, true, true, false] (by omega) (Nat.le_of_ble_eq_true rfl) ?_ ?_ <;> first | (simp only [go_sem, seval, reduceCtorEq, dropF_ch, dropF_cons, dropF_nil, cut, cond_true, cond_false, Int.natCast_zero, Int.natCast_add, Int.natCast_one, e]; done) | rfl | (simp only [go_sem, seval, reduceCtorEq, dropF_ch, dropF_cons, dropF_nil, cut, cond_true, cond_false, Int.natCast_zero, Int.natCast_add, Int.natCast_one, e]; rfl) | skip)
    · have c : place N.os L[k] < 0 := place_neg.2 hm
      simp (disch := omega) only [go_sem, seval, reduceCtorEq, c]
      (refine ti_call (l12Dim_d (ts := outT N.ts l N.ts.length) (x := L[k]) (by omega) hoz hoax) ?_ ?_ ?_; (focus (simp only [go_sem, seval, reduceCtorEq]; done)); (first | rfl | (focus (simp only [go_sem]; done))))
      by_cases hd : dimN (outT N.ts l N.ts.length) L[k] > 0
      · have e := filter_yes (p := fun x => !has N.os x && decide (dimN (outT N.ts l N.ts.length) x > 0)) hq (by simp only [has_false.2 hm, decide_eq_true hd, Bool.not_false, Bool.and_true])
        simp (disch := omega) only [go_sem, seval, reduceCtorEq, hd]
        (repeat (refine And.intro (by omega) ?_))
        (refine Next.drop [false, false, false, false, false, false, false, false, false, false, false, false, false, false, true, false, false, false, false, false, false, false, false, false, false, false, false, false, false, false, false, false, false, false, false, false, false, false, false, false, false, false, false, false, false, false, false, false, false, false, false, false, false, false, false, false, false, false, false, false, false, false, false, false, false, false, false, false, false, false, false, false, false, false, false, false, false, false, true, true, true, true, true, true, true, true, true, true, true, true, true, true, true, true, true, true, true, true, true, false] (by omega) (Nat.le_of_ble_eq_true rfl) ?_ ?_ <;> first | (simp only [go_sem, seval, reduceCtorEq, dropF_ch, dropF_cons, dropF_nil, cut, cond_true, cond_false, Int.natCast_zero, Int.natCast_add, Int.natCast_one, e, List.length_append, ← List.append_assoc, Nat.add_assoc]; done) | rfl | (simp only [go_sem, seval, reduceCtorEq, dropF_ch, dropF_cons, dropF_nil, cut, cond_true, cond_false, Int.natCast_zero, Int.natCast_add, Int.natCast_one, e, List.length_append, ← List.append_assoc, Nat.add_assoc]; rfl) | skip)
      · have e := filter_no (p := fun x => !has N.os x && decide (dimN (outT N.ts l N.ts.length) x > 0)) hq (by simp only [decide_eq_false hd, Bool.and_false])
        simp (disch := omega) only [go_sem, seval, reduceCtorEq, hd]
        (repeat (refine And.intro (by omega) ?_))
        (refine Next.drop [false, false, false, false, false, false, false, false, false, false, false, false, false, false, true, false, false, false, false, false, false, false, false, false, false, false, false, false, false, false, false, false, false, false, false, false, false, false, false, false, false, false, false, false, false, false, false, false, false, false, false, false, false, false, false, false, false, false, false, false, false, false, false, false, false, false, false, false, false, false, false, false, false, false, false, false, false, false, true, true, true, true, true, true, true, true, true, true, true, true, true, true, true, true, true, true, true, true, true, false] (by omega) (Nat.le_of_ble_eq_true rfl) ?_ ?_ <;> first | (simp only [go_sem, seval, reduceCtorEq, dropF_ch, dropF_cons, dropF_nil, cut, cond_true, cond_false, Int.natCast_zero, Int.natCast_add, Int.natCast_one, e]; done) | rfl | (simp only [go_sem, seval, reduceCtorEq, dropF_ch, dropF_cons, dropF_nil, cut, cond_true, cond_false, Int.natCast_zero, Int.natCast_add, Int.natCast_one, e]; rfl) | skip)
  have d5 : ¬ (k : Int) < L.length := by omega
  have htL : L.take k = L := List.take_of_length_le (by omega)
  have hO : A ++ pickTo (subQ N l) 100 = subO N l := by rw [← hAe]; rfl
  simp (disch := omega) only [go_sem, seval, reduceCtorEq, d5, htL, hfl, hO, subN0, hsl]
  (refine FnEnd.mk (Nat.le_of_ble_eq_true rfl) rfl (of_decide_eq_true rfl) ?_ ?_ <;> try simp only [go_sem, seval, reduceCtorEq])
theorem sSubNetwork_d {N : Net} {l : List Int} (h : NSz 1048576 N) (hL : Sz 1048576 l) : Does Try.prog 15 [netA N, .d (ints l)] [] (.tup [ownN 0 (subN N l), .d (.bool (subB N l))]) (stoN (subN N l)) := by
  have hnl := h.l
  have hll := hL.len
  (refine spec_of (by kernel_rfl) Try.func15 k_spec_SubNetwork (fnOk (Nat.le_of_ble_eq_true rfl) ?_); unfold C_spec_SubNetwork)
  (simp only [Nat.reduceSub, List.length_cons, List.length_nil, Nat.reduceAdd, ch_init1, ch_init2, ch_init3, ch_init4, ch_init5, ch_init6, ch_init7, ch_init8]; try simp only [ch_rep]); (simp only [go_sem, seval, reduceCtorEq, List.replicate])
  (refine ti_call (sNetworkOk_d h) ?_ ?_ ?_; (focus (simp only [go_sem, seval, reduceCtorEq]; done)); (first | rfl | (focus (simp only [go_sem]; done))))
  cases hok : netOk N
  · have e : subB N l = false := by simp [subB, hok]
    simp only [go_sem, seval, reduceCtorEq, hok, e, subN, cond_false]
    refine FnEnd.wk (Wk.trans (Wk.nilS 1 3 3 _ _ _ rfl rfl) (Wk.nilS 1 4 1 _ _ _ rfl rfl)) ?_
    (refine FnEnd.mk (Nat.le_of_ble_eq_true rfl) rfl (of_decide_eq_true rfl) ?_ ?_ <;> try simp only [go_sem, seval, reduceCtorEq])
  simp only [go_sem, seval, reduceCtorEq, hok]
  refine wpN_lpI (l.length) [false, false, false, false, false, true, true, true, false, false, false, false, false, false, false, false, true, true, true, true, true, true, true, true, true, true, true, true, true, true, true, true, true, true, true, true, true, false, false, false, false, false, false, false, false] (fun k => ∀ j (hj : j < l.length), j < k → 0 ≤ l[j] ∧ l[j] < N.ts.length ∧ l[j] ∉ l.take j) (fun k => [(15, .d (.int k))]) (fun k => []) (fun _ => by (simp only [go_sem, seval, reduceCtorEq, dropF_ch, dropF_cons, dropF_nil, cut, cond_true, cond_false]); first | done | rfl) (fun _ => by (simp only [go_sem, seval, reduceCtorEq, cut]); first | done | rfl) (fun j _ hj => absurd hj (Nat.not_lt_zero j)) (Nat.le_of_ble_eq_true rfl) (by first | (simp only [go_sem, seval, reduceCtorEq, dropF_ch, dropF_cons, dropF_nil, cut, cond_true, cond_false, Int.natCast_zero, Int.natCast_add, Int.natCast_one]; done) | rfl | (simp only [go_sem, seval, reduceCtorEq, dropF_ch, dropF_cons, dropF_nil, cut, cond_true, cond_false, Int.natCast_zero, Int.natCast_add, Int.natCast_one]; rfl)) (by first | (simp only [go_sem, seval, reduceCtorEq, dropF_ch, dropF_cons, dropF_nil, cut, cond_true, cond_false, Int.natCast_zero, Int.natCast_add, Int.natCast_one]; done) | rfl | (simp only [go_sem, seval, reduceCtorEq, dropF_ch, dropF_cons, dropF_nil, cut, cond_true, cond_false, Int.natCast_zero, Int.natCast_add, Int.natCast_one]; rfl)) fun k hk hi => ?_
  unfold L0_spec_SubNetwork
  by_cases hlt : k < l.length
  · have d1 : (k : Int) < l.length := by omega
    have g : l[k]? = some l[k] := List.getElem?_eq_getElem hlt
    have hbad : ¬ (0 ≤ l[k] ∧ l[k] < N.ts.length ∧ l[k] ∉ l.take k) → subB N l = false := fun hb => by simp [subB, subOkL_no k hlt hb]
    simp (disch := omega) only [go_sem, seval, reduceCtorEq, d1, g]
    (refine ti_call (l01In_d l[k] 0 ((N.ts.length : Int) - 1)) ?_ ?_ ?_; (focus (simp only [go_sem, seval, reduceCtorEq]; done)); (first | rfl | (focus (simp only [go_sem]; done))))
    by_cases b1 : 0 ≤ l[k] ∧ l[k] ≤ (N.ts.length : Int) - 1
    rotate_left
    · have c : decide (0 ≤ l[k] ∧ l[k] ≤ (N.ts.length : Int) - 1) = false := decide_eq_false b1
      have e := hbad (by omega)
      simp (disch := omega) only [go_sem, seval, reduceCtorEq, c, e, subN, cond_false]
      refine FnEnd.wk (Wk.trans (Wk.nilS 1 3 3 _ _ _ rfl rfl) (Wk.nilS 1 4 1 _ _ _ rfl rfl)) ?_
      (refine FnEnd.mk (Nat.le_of_ble_eq_true rfl) rfl (of_decide_eq_true rfl) ?_ ?_ <;> try simp only [go_sem, seval, reduceCtorEq])
    have c0 : decide (0 ≤ l[k] ∧ l[k] ≤ (N.ts.length : Int) - 1) = true := decide_eq_true b1
    have htk : (l.take k).length = k := by rw [List.length_take]; omega
    simp (disch := omega) only [go_sem, seval, reduceCtorEq, c0]
    (repeat (refine And.intro (by omega) ?_))
    (refine ti_call (l05Find_d (xs := l.take k) (x := l[k]) (by omega)) ?_ ?_ ?_; (focus (simp only [go_sem, seval, reduceCtorEq, htk, Int.sub_zero]; done)); (first | rfl | (focus (simp only [go_sem]; done))))
    by_cases hm : l[k] ∈ l.take k
    · have c : place (l.take k) l[k] ≥ 0 := by
        have h0 : ¬ place (l.take k) l[k] < 0 := fun e => place_neg.1 e hm
        omega
      have e := hbad fun x => x.2.2 hm
      simp (disch := omega) only [go_sem, seval, reduceCtorEq, c, e, subN, cond_false]
      refine FnEnd.wk (Wk.trans (Wk.nilS 1 3 3 _ _ _ rfl rfl) (Wk.nilS 1 4 1 _ _ _ rfl rfl)) ?_
      (refine FnEnd.mk (Nat.le_of_ble_eq_true rfl) rfl (of_decide_eq_true rfl) ?_ ?_ <;> try simp only [go_sem, seval, reduceCtorEq])
    · have c : ¬ place (l.take k) l[k] ≥ 0 := by have := place_neg.2 hm; omega
      have hI : ∀ j (hj : j < l.length), j < k + 1 → 0 ≤ l[j] ∧ l[j] < N.ts.length ∧ l[j] ∉ l.take j := fun j hj hjk => by
        by_cases e : j = k
        · subst e
          exact ⟨by omega, by omega, hm⟩
        · exact hi j hj (by omega)
      simp (disch := omega) only [go_sem, seval, reduceCtorEq, c]
      (refine NextI.drop [false, false, false, false, false, true, true, true, false, false, false, false, false, false, false, false, true, true, true, true, true, true, true, true, true, true, true, true, true, true, true, true, true, true, true, true, true, false, false, false, false, false, false, false, false] (by omega) (hI) (Nat.le_of_ble_eq_true rfl) ?_ ?_ <;> first | (simp only [go_sem, seval, reduceCtorEq, dropF_ch, dropF_cons, dropF_nil, cut, cond_true, cond_false, Int.natCast_zero, Int.natCast_add, Int.natCast_one]; done) | rfl | (simp only [go_sem, seval, reduceCtorEq, dropF_ch, dropF_cons, dropF_nil, cut, cond_true, cond_false, Int.natCast_zero, Int.natCast_add, Int.natCast_one]; rfl) | skip)
  have d1 : ¬ (k : Int) < l.length := by omega
  obtain rfl : k = l.length := by omega
  have hlo := subOkL_yes hi
  clear hi
  simp (disch := omega) only [go_sem, seval, reduceCtorEq, d1]
  (refine ti_call (l13Sub_d h hok hlo hll) ?_ ?_ ?_; (focus (simp only [go_sem, seval, reduceCtorEq]; done)); (first | rfl | (focus (simp only [go_sem]; done))))
  simp (disch := omega) only [go_sem, seval, reduceCtorEq]
  have hsz := subN0_sz h hok hlo
  (refine ti_call (sNetworkOk_d (N := subN0 N l) hsz) ?_ ?_ ?_; (focus (simp only [go_sem, seval, reduceCtorEq]; done)); (first | rfl | (focus (simp only [go_sem]; done))))
  cases h5 : netOk (subN0 N l)
  · have e : subB N l = false := by simp [subB, h5]
    simp only [go_sem, seval, reduceCtorEq, h5, e, subN, cond_false]
    refine FnEnd.wk (Wk.trans (Wk.nilS 1 3 3 _ _ _ rfl rfl) (Wk.nilS 1 4 1 _ _ _ rfl rfl)) ?_
    (refine FnEnd.mk (Nat.le_of_ble_eq_true rfl) rfl (of_decide_eq_true rfl) ?_ ?_ <;> try simp only [go_sem, seval, reduceCtorEq])
  · have e : subB N l = true := by simp [subB, hok, hlo, h5]
    simp only [go_sem, seval, reduceCtorEq, h5, e, subN, cond_true]
    (refine FnEnd.mk (Nat.le_of_ble_eq_true rfl) rfl (of_decide_eq_true rfl) ?_ ?_ <;> try simp only [go_sem, seval, reduceCtorEq])
end Go.Proofs.Ytcgnehacihjnkaa
