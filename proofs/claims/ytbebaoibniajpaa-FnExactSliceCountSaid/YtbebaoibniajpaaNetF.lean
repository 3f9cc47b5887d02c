/-
  Contracts: neighbours, closed labels. No condition.
-/
import Derived.Test.YtbebaoibniajpaaNetE
namespace Go.Proofs.Ytbebaoibniajpaa
open Go.RowKit Go.Lift Plain
set_option linter.unusedSimpArgs false
set_option linter.unusedVariables false
set_option maxRecDepth 100000

open Classical in
noncomputable def shareB (a b : List Int) : Bool := decide (∃ x ∈ a, x ∈ b)
theorem shareB_yes {a b : List Int} {k : Nat} (hk : k < a.length) (h : a[k] ∈ b) : shareB a b = true := decide_eq_true ⟨_, List.getElem_mem hk, h⟩
theorem shareB_no {a b : List Int} (h : ∀ x ∈ a, x ∉ b) : shareB a b = false := decide_eq_false fun ⟨x, hx, hb⟩ => h x hx hb
theorem shareLabel_d {a b : List Int} (ha : a.length ≤ 1048576) (hb : b.length ≤ 1048576) : Does Try.prog 93 [.d (ints a), .d (ints b)] [] (.d (.bool (shareB a b))) [] := by
  (refine spec_of (by kernel_rfl) Try.func93 k_impl_shareLabel (fnOk (Nat.le_of_ble_eq_true rfl) ?_); unfold C_impl_shareLabel)
  (simp only [Nat.reduceSub, List.length_cons, List.length_nil, Nat.reduceAdd, ch_init1, ch_init2, ch_init3, ch_init4, ch_init5, ch_init6, ch_init7, ch_init8]; try simp only [ch_rep]); (simp only [go_sem, seval, reduceCtorEq, List.replicate])
  have hI0 : ∀ x ∈ a.take 0, x ∉ b := fun x hx => by simp at hx
  refine wpN_lpI (a.length) [false, false, false, false, true, false, true, false, false, false, true, true, true, true, true, true, true] (fun k => ∀ x ∈ a.take k, x ∉ b) (fun k => [(9, .d (.int k))]) (fun k => []) (fun _ => by (simp only [go_sem, seval, reduceCtorEq, dropF_ch, dropF_cons, dropF_nil, cut, cond_true, cond_false]); first | done | rfl) (fun _ => by (simp only [go_sem, seval, reduceCtorEq, cut]); first | done | rfl) (hI0) (Nat.le_of_ble_eq_true rfl) (by first | (simp only [go_sem, seval, reduceCtorEq, dropF_ch, dropF_cons, dropF_nil, cut, cond_true, cond_false, Int.natCast_zero, Int.natCast_add, Int.natCast_one]; done) | rfl | (simp only [go_sem, seval, reduceCtorEq, dropF_ch, dropF_cons, dropF_nil, cut, cond_true, cond_false, Int.natCast_zero, Int.natCast_add, Int.natCast_one]; rfl)) (by first | (simp only [go_sem, seval, reduceCtorEq, dropF_ch, dropF_cons, dropF_nil, cut, cond_true, cond_false, Int.natCast_zero, Int.natCast_add, Int.natCast_one]; done) | rfl | (simp only [go_sem, seval, reduceCtorEq, dropF_ch, dropF_cons, dropF_nil, cut, cond_true, cond_false, Int.natCast_zero, Int.natCast_add, Int.natCast_one]; rfl)) fun k hk hi => ?_
  unfold L0_impl_shareLabel
  by_cases hlt : k < a.length
  · have d1 : (k : Int) < a.length := by omega
    have g : a[k]? = some a[k] := List.getElem?_eq_getElem hlt
    simp (disch := omega) only [go_sem, seval, reduceCtorEq, d1, g]
    (refine ti_call (hasInt_d (xs := b) (x := a[k]) (by omega)) ?_ ?_ ?_; (focus (simp only [go_sem, seval, reduceCtorEq]; done)); (first | rfl | (focus (simp only [go_sem]; done))))
    cases hm : has b a[k]
    · have hI : ∀ x ∈ a.take (k + 1), x ∉ b := fun x hx => by
        rw [take_ss hlt] at hx
        rcases List.mem_append.1 hx with hx | hx
        · exact hi x hx
        · simp only [List.mem_singleton] at hx; subst hx; exact has_false.1 hm
      simp (disch := omega) only [go_sem, seval, reduceCtorEq, hm]
      (refine NextI.drop [false, false, false, false, true, false, true, false, false, false, true, true, true, true, true, true, true] (by omega) (hI) (Nat.le_of_ble_eq_true rfl) ?_ ?_ <;> first | (simp only [go_sem, seval, reduceCtorEq, dropF_ch, dropF_cons, dropF_nil, cut, cond_true, cond_false, Int.natCast_zero, Int.natCast_add, Int.natCast_one]; done) | rfl | (simp only [go_sem, seval, reduceCtorEq, dropF_ch, dropF_cons, dropF_nil, cut, cond_true, cond_false, Int.natCast_zero, Int.natCast_add, Int.natCast_one]; rfl) | skip)
    · have e := shareB_yes hlt (has_true.1 hm)
      simp (disch := omega) only [go_sem, seval, reduceCtorEq, hm, e]
      (refine FnEnd.mk (Nat.le_of_ble_eq_true rfl) rfl (of_decide_eq_true rfl) ?_ ?_ <;> try simp only [go_sem, seval, reduceCtorEq])
  · have d1 : ¬ (k : Int) < a.length := by omega
    have e := shareB_no (a := a) (b := b) (by rw [List.take_of_length_le (by omega)] at hi; exact hi)
    simp (disch := omega) only [go_sem, seval, reduceCtorEq, d1, e]
    (refine FnEnd.mk (Nat.le_of_ble_eq_true rfl) rfl (of_decide_eq_true rfl) ?_ ?_ <;> try simp only [go_sem, seval, reduceCtorEq])
theorem l13Meet_d {t u : Ten} (ha : t.labels.length ≤ 1048576) (hb : u.labels.length ≤ 1048576) : Does Try.prog 92 [tenA t, tenA u] [] (.d (.bool (shareB t.labels u.labels))) [] := by
  (refine spec_of (by kernel_rfl) Try.func92 k_spec_l13Meet (fnOk (Nat.le_of_ble_eq_true rfl) ?_); unfold C_spec_l13Meet)
  (simp only [Nat.reduceSub, List.length_cons, List.length_nil, Nat.reduceAdd, ch_init1, ch_init2, ch_init3, ch_init4, ch_init5, ch_init6, ch_init7, ch_init8]; try simp only [ch_rep]); (simp only [go_sem, seval, reduceCtorEq, List.replicate])
  have hI0 : ∀ x ∈ t.labels.take 0, x ∉ u.labels := fun x hx => by simp at hx
  refine wpN_lpI (t.labels.length) [false, false, false, false, true, false, true, false, false, false, false, true, true, true, true, true, true, true, true, true] (fun k => ∀ x ∈ t.labels.take k, x ∉ u.labels) (fun k => [(10, .d (.int k))]) (fun k => []) (fun _ => by (simp only [go_sem, seval, reduceCtorEq, dropF_ch, dropF_cons, dropF_nil, cut, cond_true, cond_false]); first | done | rfl) (fun _ => by (simp only [go_sem, seval, reduceCtorEq, cut]); first | done | rfl) (hI0) (Nat.le_of_ble_eq_true rfl) (by first | (simp only [go_sem, seval, reduceCtorEq, dropF_ch, dropF_cons, dropF_nil, cut, cond_true, cond_false, Int.natCast_zero, Int.natCast_add, Int.natCast_one]; done) | rfl | (simp only [go_sem, seval, reduceCtorEq, dropF_ch, dropF_cons, dropF_nil, cut, cond_true, cond_false, Int.natCast_zero, Int.natCast_add, Int.natCast_one]; rfl)) (by first | (simp only [go_sem, seval, reduceCtorEq, dropF_ch, dropF_cons, dropF_nil, cut, cond_true, cond_false, Int.natCast_zero, Int.natCast_add, Int.natCast_one]; done) | rfl | (simp only [go_sem, seval, reduceCtorEq, dropF_ch, dropF_cons, dropF_nil, cut, cond_true, cond_false, Int.natCast_zero, Int.natCast_add, Int.natCast_one]; rfl)) fun k hk hi => ?_
  unfold L0_spec_l13Meet
  by_cases hlt : k < t.labels.length
  · have d1 : (k : Int) < t.labels.length := by omega
    have g : t.labels[k]? = some t.labels[k] := List.getElem?_eq_getElem hlt
    simp (disch := omega) only [go_sem, seval, reduceCtorEq, d1, g]
    (refine ti_call (l05Find_d (xs := u.labels) (x := t.labels[k]) (by omega)) ?_ ?_ ?_; (focus (simp only [go_sem, seval, reduceCtorEq]; done)); (first | rfl | (focus (simp only [go_sem]; done))))
    by_cases hm : t.labels[k] ∈ u.labels
    · have e := shareB_yes hlt hm
      have c : place u.labels t.labels[k] ≥ 0 := by
        have h0 : ¬ place u.labels t.labels[k] < 0 := fun e => place_neg.1 e hm
        omega
      simp (disch := omega) only [go_sem, seval, reduceCtorEq, c, e]
      (refine FnEnd.mk (Nat.le_of_ble_eq_true rfl) rfl (of_decide_eq_true rfl) ?_ ?_ <;> try simp only [go_sem, seval, reduceCtorEq])
    · have c : ¬ place u.labels t.labels[k] ≥ 0 := by have := place_neg.2 hm; omega
      have hI : ∀ x ∈ t.labels.take (k + 1), x ∉ u.labels := fun x hx => by
        rw [take_ss hlt] at hx
        rcases List.mem_append.1 hx with hx | hx
        · exact hi x hx
        · simp only [List.mem_singleton] at hx; subst hx; exact hm
      simp (disch := omega) only [go_sem, seval, reduceCtorEq, c]
      (refine NextI.drop [false, false, false, false, true, false, true, false, false, false, false, true, true, true, true, true, true, true, true, true] (by omega) (hI) (Nat.le_of_ble_eq_true rfl) ?_ ?_ <;> first | (simp only [go_sem, seval, reduceCtorEq, dropF_ch, dropF_cons, dropF_nil, cut, cond_true, cond_false, Int.natCast_zero, Int.natCast_add, Int.natCast_one]; done) | rfl | (simp only [go_sem, seval, reduceCtorEq, dropF_ch, dropF_cons, dropF_nil, cut, cond_true, cond_false, Int.natCast_zero, Int.natCast_add, Int.natCast_one]; rfl) | skip)
  · have d1 : ¬ (k : Int) < t.labels.length := by omega
    have e := shareB_no (a := t.labels) (b := u.labels) (by rw [List.take_of_length_le (by omega)] at hi; exact hi)
    simp (disch := omega) only [go_sem, seval, reduceCtorEq, d1, e]
    (refine FnEnd.mk (Nat.le_of_ble_eq_true rfl) rfl (of_decide_eq_true rfl) ?_ ?_ <;> try simp only [go_sem, seval, reduceCtorEq])

def tget (ts : List Ten) (i : Nat) : Ten := ts.getD i ⟨[], [], []⟩
theorem tget_at {ts : List Ten} {i : Nat} (h : i < ts.length) : tget ts i = ts[i] := by simp [tget, h]
noncomputable def nbP (ts : List Ten) (j i : Nat) : Bool := decide (i ≠ j) && shareB (tget ts i).labels (tget ts j).labels
noncomputable def nbL (N : Net) (x : Int) : List Int := if netOk N = true ∧ 0 ≤ x ∧ x < N.ts.length then pickTo (nbP N.ts x.toNat) N.ts.length else []
theorem nbL_sz {N : Net} {x : Int} (h : NSz 1048576 N) : Sz 1048576 (nbL N x) := by
  unfold nbL
  split
  · exact pickTo_sz _ h.l
  · exact ⟨by simp, by simp⟩
theorem iNeighborsOf_d {N : Net} {x : Int} (h : NSz 1048576 N) : Does Try.prog 48 [netA N, .d (.int x)] [] (.own 0 0 (nbL N x).length) [some ⟨1, true, iv (nbL N x)⟩] := by
  have hhl := h.l
  (refine spec_of (by kernel_rfl) Try.func48 k_impl_NeighborsOf (fnOk (Nat.le_of_ble_eq_true rfl) ?_); unfold C_impl_NeighborsOf)
  (simp only [Nat.reduceSub, List.length_cons, List.length_nil, Nat.reduceAdd, ch_init1, ch_init2, ch_init3, ch_init4, ch_init5, ch_init6, ch_init7, ch_init8]; try simp only [ch_rep]); (simp only [go_sem, seval, reduceCtorEq, List.replicate])
  (refine ti_call (iNetworkOk_d h) ?_ ?_ ?_; (focus (simp only [go_sem, seval, reduceCtorEq]; done)); (first | rfl | (focus (simp only [go_sem]; done))))
  cases h1 : netOk N
  · have e : nbL N x = [] := by simp [nbL, h1]
    simp only [go_sem, seval, reduceCtorEq, h1, e]
    refine FnEnd.wk (Wk.nilE 4 1 _ _ rfl) ?_
    (refine FnEnd.mk (Nat.le_of_ble_eq_true rfl) rfl (of_decide_eq_true rfl) ?_ ?_ <;> try simp only [go_sem, seval, reduceCtorEq])
  by_cases b1 : x < 0
  · have e : nbL N x = [] := by unfold nbL; rw [if_neg (by omega)]
    simp only [go_sem, seval, reduceCtorEq, h1, b1, e]
    refine FnEnd.wk (Wk.nilE 4 1 _ _ rfl) ?_
    (refine FnEnd.mk (Nat.le_of_ble_eq_true rfl) rfl (of_decide_eq_true rfl) ?_ ?_ <;> try simp only [go_sem, seval, reduceCtorEq])
  by_cases b2 : x ≥ N.ts.length
  · have e : nbL N x = [] := by unfold nbL; rw [if_neg (by omega)]
    simp only [go_sem, seval, reduceCtorEq, h1, b1, b2, e]
    refine FnEnd.wk (Wk.nilE 4 1 _ _ rfl) ?_
    (refine FnEnd.mk (Nat.le_of_ble_eq_true rfl) rfl (of_decide_eq_true rfl) ?_ ?_ <;> try simp only [go_sem, seval, reduceCtorEq])
  obtain ⟨j, rfl⟩ : ∃ j : Nat, x = j := ⟨x.toNat, by omega⟩
  have hj : j < N.ts.length := by omega
  have e : nbL N j = pickTo (nbP N.ts j) N.ts.length := by unfold nbL; rw [if_pos ⟨h1, by omega, by omega⟩]; simp
  have hjt := h.t N.ts[j] (List.getElem_mem hj)
  have gj := tcs_get (List.getElem?_eq_getElem hj)
  have c3 : (j : Int) < N.ts.length := by omega
  simp (disch := omega) only [go_sem, seval, reduceCtorEq, h1, b1, b2]
  (refine wpN_lwk (Wk.nilE 5 1 _ _ rfl) ?_; simp only [go_sem, seval, reduceCtorEq])
  refine wpN_lp (N.ts.length) [false, false, false, false, false, false, true, true, false, false, false, false, false, false, false, false, false, false, false, false, false, false, false, false, false, false, true, true, true, true, true, true, true, true, true, true, true, true, true, true, true, true, true, true, true, true, true, true, true, false] (fun k => [(5, .own 1 0 (pickTo (nbP N.ts j) k).length), (25, .d (.int k))]) (fun k => [(1, iv (pickTo (nbP N.ts j) k))]) (fun _ => by (simp only [go_sem, seval, reduceCtorEq, dropF_ch, dropF_cons, dropF_nil, cut, cond_true, cond_false]); first | done | rfl) (fun _ => by (simp only [go_sem, seval, reduceCtorEq, cut]); first | done | rfl) (Nat.le_of_ble_eq_true rfl) (by first | (simp only [go_sem, seval, reduceCtorEq, dropF_ch, dropF_cons, dropF_nil, cut, cond_true, cond_false, Int.natCast_zero, Int.natCast_add, Int.natCast_one, pickTo_zero, iv_nil]; done) | rfl | (simp only [go_sem, seval, reduceCtorEq, dropF_ch, dropF_cons, dropF_nil, cut, cond_true, cond_false, Int.natCast_zero, Int.natCast_add, Int.natCast_one, pickTo_zero, iv_nil]; rfl)) (by first | (simp only [go_sem, seval, reduceCtorEq, dropF_ch, dropF_cons, dropF_nil, cut, cond_true, cond_false, Int.natCast_zero, Int.natCast_add, Int.natCast_one, pickTo_zero, iv_nil]; done) | rfl | (simp only [go_sem, seval, reduceCtorEq, dropF_ch, dropF_cons, dropF_nil, cut, cond_true, cond_false, Int.natCast_zero, Int.natCast_add, Int.natCast_one, pickTo_zero, iv_nil]; rfl)) fun k hk => ?_
  unfold L0_impl_NeighborsOf
  have hpl := pickTo_len (nbP N.ts j) k
  by_cases hlt : k < N.ts.length
  · have d1 : (k : Int) < N.ts.length := by omega
    have g3 := tcs_cut (List.getElem?_eq_getElem hlt)
    have hst := h.t N.ts[k] (List.getElem_mem hlt)
    have hjl := hjt.l.len
    have hkl := hst.l.len
    by_cases hkj : k = j
    · have c : ((k : Int) != j) = false := by simp [hkj]
      have hp : nbP N.ts j k = false := by simp [nbP, hkj]
      simp (disch := omega) only [go_sem, seval, reduceCtorEq, d1, g3, c]
      refine ⟨by omega, ?_⟩
      (refine Next.drop [false, false, false, false, false, false, true, true, false, false, false, false, false, false, false, false, false, false, false, false, false, false, false, false, false, false, true, true, true, true, true, true, true, true, true, true, true, true, true, true, true, true, true, true, true, true, true, true, true, false] (by omega) (Nat.le_of_ble_eq_true rfl) ?_ ?_ <;> first | (simp only [go_sem, seval, reduceCtorEq, dropF_ch, dropF_cons, dropF_nil, cut, cond_true, cond_false, Int.natCast_zero, Int.natCast_add, Int.natCast_one, pickTo_no hp]; done) | rfl | (simp only [go_sem, seval, reduceCtorEq, dropF_ch, dropF_cons, dropF_nil, cut, cond_true, cond_false, Int.natCast_zero, Int.natCast_add, Int.natCast_one, pickTo_no hp]; rfl) | skip)
    · have c : ((k : Int) != j) = true := by simp; omega
      have hp : nbP N.ts j k = shareB N.ts[k].labels N.ts[j].labels := by rw [nbP, tget_at hlt, tget_at hj]; simp [hkj]
      simp (disch := omega) only [go_sem, seval, reduceCtorEq, d1, g3, c, c3, gj.1]
      refine ⟨by omega, ?_⟩
      (refine ti_call (shareLabel_d (a := N.ts[k].labels) (b := N.ts[j].labels) (by omega) (by omega)) ?_ ?_ ?_; (focus (simp only [go_sem, seval, reduceCtorEq]; done)); (first | rfl | (focus (simp only [go_sem]; done))))
      rw [← hp]
      cases hs : nbP N.ts j k
      · simp (disch := omega) only [go_sem, seval, reduceCtorEq, hs]
        (refine Next.drop [false, false, false, false, false, false, true, true, false, false, false, false, false, false, false, false, false, false, false, false, false, false, false, false, false, false, true, true, true, true, true, true, true, true, true, true, true, true, true, true, true, true, true, true, true, true, true, true, true, false] (by omega) (Nat.le_of_ble_eq_true rfl) ?_ ?_ <;> first | (simp only [go_sem, seval, reduceCtorEq, dropF_ch, dropF_cons, dropF_nil, cut, cond_true, cond_false, Int.natCast_zero, Int.natCast_add, Int.natCast_one, pickTo_no hs]; done) | rfl | (simp only [go_sem, seval, reduceCtorEq, dropF_ch, dropF_cons, dropF_nil, cut, cond_true, cond_false, Int.natCast_zero, Int.natCast_add, Int.natCast_one, pickTo_no hs]; rfl) | skip)
      · simp (disch := omega) only [go_sem, seval, reduceCtorEq, hs]
        refine ⟨by omega, ?_⟩
        (refine Next.drop [false, false, false, false, false, false, true, true, false, false, false, false, false, false, false, false, false, false, false, false, false, false, false, false, false, false, true, true, true, true, true, true, true, true, true, true, true, true, true, true, true, true, true, true, true, true, true, true, true, false] (by omega) (Nat.le_of_ble_eq_true rfl) ?_ ?_ <;> first | (simp only [go_sem, seval, reduceCtorEq, dropF_ch, dropF_cons, dropF_nil, cut, cond_true, cond_false, Int.natCast_zero, Int.natCast_add, Int.natCast_one, pickTo_yes hs, List.length_append]; done) | rfl | (simp only [go_sem, seval, reduceCtorEq, dropF_ch, dropF_cons, dropF_nil, cut, cond_true, cond_false, Int.natCast_zero, Int.natCast_add, Int.natCast_one, pickTo_yes hs, List.length_append]; rfl) | skip)
  · have d1 : ¬ (k : Int) < N.ts.length := by omega
    obtain rfl : k = N.ts.length := by omega
    simp (disch := omega) only [go_sem, seval, reduceCtorEq, d1, e]
    (refine FnEnd.mk (Nat.le_of_ble_eq_true rfl) rfl (of_decide_eq_true rfl) ?_ ?_ <;> try simp only [go_sem, seval, reduceCtorEq])
theorem sNeighborsOf_d {N : Net} {x : Int} (h : NSz 1048576 N) : Does Try.prog 47 [netA N, .d (.int x)] [] (.own 0 0 (nbL N x).length) [some ⟨1, true, iv (nbL N x)⟩] := by
  have hhl := h.l
  (refine spec_of (by kernel_rfl) Try.func47 k_spec_NeighborsOf (fnOk (Nat.le_of_ble_eq_true rfl) ?_); unfold C_spec_NeighborsOf)
  (simp only [Nat.reduceSub, List.length_cons, List.length_nil, Nat.reduceAdd, ch_init1, ch_init2, ch_init3, ch_init4, ch_init5, ch_init6, ch_init7, ch_init8]; try simp only [ch_rep]); (simp only [go_sem, seval, reduceCtorEq, List.replicate])
  (refine ti_call (sNetworkOk_d h) ?_ ?_ ?_; (focus (simp only [go_sem, seval, reduceCtorEq]; done)); (first | rfl | (focus (simp only [go_sem]; done))))
  cases h1 : netOk N
  · have e : nbL N x = [] := by simp [nbL, h1]
    simp only [go_sem, seval, reduceCtorEq, h1, e]
    refine FnEnd.wk (Wk.nilE 4 1 _ _ rfl) ?_
    (refine FnEnd.mk (Nat.le_of_ble_eq_true rfl) rfl (of_decide_eq_true rfl) ?_ ?_ <;> try simp only [go_sem, seval, reduceCtorEq])
  simp (disch := omega) only [go_sem, seval, reduceCtorEq, h1]
  (refine ti_call (l01In_d x 0 ((N.ts.length : Int) - 1)) ?_ ?_ ?_; (focus (simp only [go_sem, seval, reduceCtorEq]; done)); (first | rfl | (focus (simp only [go_sem]; done))))
  by_cases b1 : 0 ≤ x ∧ x ≤ (N.ts.length : Int) - 1
  rotate_left
  · have e : nbL N x = [] := by unfold nbL; rw [if_neg (by omega)]
    have c : decide (0 ≤ x ∧ x ≤ (N.ts.length : Int) - 1) = false := decide_eq_false b1
    simp only [go_sem, seval, reduceCtorEq, c, e]
    refine FnEnd.wk (Wk.nilE 4 1 _ _ rfl) ?_
    (refine FnEnd.mk (Nat.le_of_ble_eq_true rfl) rfl (of_decide_eq_true rfl) ?_ ?_ <;> try simp only [go_sem, seval, reduceCtorEq])
  have c0 : decide (0 ≤ x ∧ x ≤ (N.ts.length : Int) - 1) = true := decide_eq_true b1
  simp (disch := omega) only [go_sem, seval, reduceCtorEq, c0]
  obtain ⟨j, rfl⟩ : ∃ j : Nat, x = j := ⟨x.toNat, by omega⟩
  have hj : j < N.ts.length := by omega
  have e : nbL N j = pickTo (nbP N.ts j) N.ts.length := by unfold nbL; rw [if_pos ⟨h1, by omega, by omega⟩]; simp
  have hjt := h.t N.ts[j] (List.getElem_mem hj)
  have gj := tcs_cut (List.getElem?_eq_getElem hj)
  have c3 : (j : Int) < N.ts.length := by omega
  refine wpN_lp (N.ts.length) [false, false, false, false, false, false, true, true, false, false, false, false, false, false, false, false, false, false, false, false, true, false, false, false, false, true, true, true, true, true, true, true, true, true, true, true, true, true, true, true, true, true, true, true, true, true, false] (fun k => [(5, .own 1 0 (pickTo (nbP N.ts j) k).length), (24, .d (.int k))]) (fun k => [(1, iv (pickTo (nbP N.ts j) k))]) (fun _ => by (simp only [go_sem, seval, reduceCtorEq, dropF_ch, dropF_cons, dropF_nil, cut, cond_true, cond_false]); first | done | rfl) (fun _ => by (simp only [go_sem, seval, reduceCtorEq, cut]); first | done | rfl) (Nat.le_of_ble_eq_true rfl) (by first | (simp only [go_sem, seval, reduceCtorEq, dropF_ch, dropF_cons, dropF_nil, cut, cond_true, cond_false, Int.natCast_zero, Int.natCast_add, Int.natCast_one, pickTo_zero, iv_nil]; done) | rfl | (simp only [go_sem, seval, reduceCtorEq, dropF_ch, dropF_cons, dropF_nil, cut, cond_true, cond_false, Int.natCast_zero, Int.natCast_add, Int.natCast_one, pickTo_zero, iv_nil]; rfl)) (by first | (simp only [go_sem, seval, reduceCtorEq, dropF_ch, dropF_cons, dropF_nil, cut, cond_true, cond_false, Int.natCast_zero, Int.natCast_add, Int.natCast_one, pickTo_zero, iv_nil]; done) | rfl | (simp only [go_sem, seval, reduceCtorEq, dropF_ch, dropF_cons, dropF_nil, cut, cond_true, cond_false, Int.natCast_zero, Int.natCast_add, Int.natCast_one, pickTo_zero, iv_nil]; rfl)) fun k hk => ?_
  unfold L0_spec_NeighborsOf
  have hpl := pickTo_len (nbP N.ts j) k
  by_cases hlt : k < N.ts.length
  · have d1 : (k : Int) < N.ts.length := by omega
    have g3 := tcs_cut (List.getElem?_eq_getElem hlt)
    have hst := h.t N.ts[k] (List.getElem_mem hlt)
    have hjl := hjt.l.len
    have hkl := hst.l.len
    by_cases hkj : k = j
    · have c : ((k : Int) != j) = false := by simp [hkj]
      have hp : nbP N.ts j k = false := by simp [nbP, hkj]
      simp (disch := omega) only [go_sem, seval, reduceCtorEq, d1, g3, c]
      refine ⟨by omega, ?_⟩
      (refine Next.drop [false, false, false, false, false, false, true, true, false, false, false, false, false, false, false, false, false, false, false, false, true, false, false, false, false, true, true, true, true, true, true, true, true, true, true, true, true, true, true, true, true, true, true, true, true, true, false] (by omega) (Nat.le_of_ble_eq_true rfl) ?_ ?_ <;> first | (simp only [go_sem, seval, reduceCtorEq, dropF_ch, dropF_cons, dropF_nil, cut, cond_true, cond_false, Int.natCast_zero, Int.natCast_add, Int.natCast_one, pickTo_no hp]; done) | rfl | (simp only [go_sem, seval, reduceCtorEq, dropF_ch, dropF_cons, dropF_nil, cut, cond_true, cond_false, Int.natCast_zero, Int.natCast_add, Int.natCast_one, pickTo_no hp]; rfl) | skip)
    · have c : ((k : Int) != j) = true := by simp; omega
      have hp : nbP N.ts j k = shareB N.ts[k].labels N.ts[j].labels := by rw [nbP, tget_at hlt, tget_at hj]; simp [hkj]
      simp (disch := omega) only [go_sem, seval, reduceCtorEq, d1, g3, c, c3, gj]
      refine ⟨by omega, by omega, ?_⟩
      (refine ti_call (l13Meet_d (t := N.ts[k]) (u := N.ts[j]) (by omega) (by omega)) ?_ ?_ ?_; (focus (simp only [go_sem, seval, reduceCtorEq]; done)); (first | rfl | (focus (simp only [go_sem]; done))))
      rw [← hp]
      cases hs : nbP N.ts j k
      · simp (disch := omega) only [go_sem, seval, reduceCtorEq, hs]
        (refine Next.drop [false, false, false, false, false, false, true, true, false, false, false, false, false, false, false, false, false, false, false, false, true, false, false, false, false, true, true, true, true, true, true, true, true, true, true, true, true, true, true, true, true, true, true, true, true, true, false] (by omega) (Nat.le_of_ble_eq_true rfl) ?_ ?_ <;> first | (simp only [go_sem, seval, reduceCtorEq, dropF_ch, dropF_cons, dropF_nil, cut, cond_true, cond_false, Int.natCast_zero, Int.natCast_add, Int.natCast_one, pickTo_no hs]; done) | rfl | (simp only [go_sem, seval, reduceCtorEq, dropF_ch, dropF_cons, dropF_nil, cut, cond_true, cond_false, Int.natCast_zero, Int.natCast_add, Int.natCast_one, pickTo_no hs]; rfl) | skip)
      · simp (disch := omega) only [go_sem, seval, reduceCtorEq, hs]
        refine ⟨by omega, ?_⟩
        (refine Next.drop [false, false, false, false, false, false, true, true, false, false, false, false, false, false, false, false, false, false, false, false, true, false, false, false, false, true, true, true, true, true, true, true, true, true, true, true, true, true, true, true, true, true, true, true, true, true, false] (by omega) (Nat.le_of_ble_eq_true rfl) ?_ ?_ <;> first | (simp only [go_sem, seval, reduceCtorEq, dropF_ch, dropF_cons, dropF_nil, cut, cond_true, cond_false, Int.natCast_zero, Int.natCast_add, Int.natCast_one, pickTo_yes hs, List.length_append]; done) | rfl | (simp only [go_sem, seval, reduceCtorEq, dropF_ch, dropF_cons, dropF_nil, cut, cond_true, cond_false, Int.natCast_zero, Int.natCast_add, Int.natCast_one, pickTo_yes hs, List.length_append]; rfl) | skip)
  · have d1 : ¬ (k : Int) < N.ts.length := by omega
    obtain rfl : k = N.ts.length := by omega
    simp (disch := omega) only [go_sem, seval, reduceCtorEq, d1, e]
    (refine FnEnd.mk (Nat.le_of_ble_eq_true rfl) rfl (of_decide_eq_true rfl) ?_ ?_ <;> try simp only [go_sem, seval, reduceCtorEq])

/-! ### Closed labels -/
noncomputable def closedL (N : Net) : List Int := wol (labelsL N) N.os
theorem closedL_sz (N : Net) : Sz 1048576 (closedL N) := by
  have h := labelsL_sz N
  exact ⟨Nat.le_trans (wol_len _ _) h.len, fun x hx => h.wf x (wol_mem.1 hx).1⟩
theorem iClosedLabels_d {N : Net} (h : NSz 1048576 N) : Does Try.prog 50 [netA N] [] (.own 0 0 (closedL N).length) [some ⟨1, true, iv (closedL N)⟩] := by
  have hl := (labelsL_sz N).len
  have hol := h.o.len
  have htl : List.take (labelsL N).length (labelsL N) = labelsL N := List.take_length
  (refine spec_of (by kernel_rfl) Try.func50 k_impl_ClosedLabels (fnOk (Nat.le_of_ble_eq_true rfl) ?_); unfold C_impl_ClosedLabels)
  (simp only [Nat.reduceSub, List.length_cons, List.length_nil, Nat.reduceAdd, ch_init1, ch_init2, ch_init3, ch_init4, ch_init5, ch_init6, ch_init7, ch_init8]; try simp only [ch_rep]); (simp only [go_sem, seval, reduceCtorEq, List.replicate])
  (refine ti_call (iLabelsOf_d h) ?_ ?_ ?_; (focus (simp only [go_sem, seval, reduceCtorEq]; done)); (first | rfl | (focus (simp only [go_sem]; done))))
  simp only [go_sem, seval, reduceCtorEq]
  (refine wpN_lwk (Wk.nilE 3 1 _ _ rfl) ?_; simp only [go_sem, seval, reduceCtorEq])
  refine wpN_lp ((labelsL N).length) [false, false, false, false, false, true, false, false, false, false, true, true, true, true, true, true, true, true, true, true, true, true, true, false] (fun k => [(3, .own 2 0 (wol ((labelsL N).take k) N.os).length), (9, .d (.int k))]) (fun k => [(2, iv (wol ((labelsL N).take k) N.os))]) (fun _ => by (simp only [go_sem, seval, reduceCtorEq, dropF_ch, dropF_cons, dropF_nil, cut, cond_true, cond_false]); first | done | rfl) (fun _ => by (simp only [go_sem, seval, reduceCtorEq, cut]); first | done | rfl) (Nat.le_of_ble_eq_true rfl) (by first | (simp only [go_sem, seval, reduceCtorEq, dropF_ch, dropF_cons, dropF_nil, cut, cond_true, cond_false, Int.natCast_zero, Int.natCast_add, Int.natCast_one, List.take_zero, wol, List.filter_nil, iv_nil]; done) | rfl | (simp only [go_sem, seval, reduceCtorEq, dropF_ch, dropF_cons, dropF_nil, cut, cond_true, cond_false, Int.natCast_zero, Int.natCast_add, Int.natCast_one, List.take_zero, wol, List.filter_nil, iv_nil]; rfl)) (by first | (simp only [go_sem, seval, reduceCtorEq, dropF_ch, dropF_cons, dropF_nil, cut, cond_true, cond_false, Int.natCast_zero, Int.natCast_add, Int.natCast_one, List.take_zero, wol, List.filter_nil, iv_nil]; done) | rfl | (simp only [go_sem, seval, reduceCtorEq, dropF_ch, dropF_cons, dropF_nil, cut, cond_true, cond_false, Int.natCast_zero, Int.natCast_add, Int.natCast_one, List.take_zero, wol, List.filter_nil, iv_nil]; rfl)) fun k hk => ?_
  unfold L0_impl_ClosedLabels
  have hwl := wol_len ((labelsL N).take k) N.os
  have htk : ((labelsL N).take k).length ≤ (labelsL N).length := by rw [List.length_take]; omega
  by_cases hlt : k < (labelsL N).length
  · have d1 : (k : Int) < (labelsL N).length := by omega
    have g : (labelsL N)[k]? = some (labelsL N)[k] := List.getElem?_eq_getElem hlt
    simp (disch := omega) only [go_sem, seval, reduceCtorEq, d1, g]
    (refine ti_call (hasInt_d (xs := N.os) (x := (labelsL N)[k]) (by omega)) ?_ ?_ ?_; (focus (simp only [go_sem, seval, reduceCtorEq]; done)); (first | rfl | (focus (simp only [go_sem]; done))))
    cases he : has N.os (labelsL N)[k]
    · have e : wol ((labelsL N).take (k + 1)) N.os = wol ((labelsL N).take k) N.os ++ [(labelsL N)[k]] := filter_yes (p := fun x => !has N.os x) hlt (by rw [he]; rfl)
      simp (disch := omega) only [go_sem, seval, reduceCtorEq, he]
      refine ⟨by omega, ?_⟩
      (refine Next.drop [false, false, false, false, false, true, false, false, false, false, true, true, true, true, true, true, true, true, true, true, true, true, true, false] (by omega) (Nat.le_of_ble_eq_true rfl) ?_ ?_ <;> first | (simp only [go_sem, seval, reduceCtorEq, dropF_ch, dropF_cons, dropF_nil, cut, cond_true, cond_false, Int.natCast_zero, Int.natCast_add, Int.natCast_one, e, List.length_append]; done) | rfl | (simp only [go_sem, seval, reduceCtorEq, dropF_ch, dropF_cons, dropF_nil, cut, cond_true, cond_false, Int.natCast_zero, Int.natCast_add, Int.natCast_one, e, List.length_append]; rfl) | skip)
    · have e : wol ((labelsL N).take (k + 1)) N.os = wol ((labelsL N).take k) N.os := filter_no (p := fun x => !has N.os x) hlt (by rw [he]; rfl)
      simp (disch := omega) only [go_sem, seval, reduceCtorEq, he]
      (refine Next.drop [false, false, false, false, false, true, false, false, false, false, true, true, true, true, true, true, true, true, true, true, true, true, true, false] (by omega) (Nat.le_of_ble_eq_true rfl) ?_ ?_ <;> first | (simp only [go_sem, seval, reduceCtorEq, dropF_ch, dropF_cons, dropF_nil, cut, cond_true, cond_false, Int.natCast_zero, Int.natCast_add, Int.natCast_one, e]; done) | rfl | (simp only [go_sem, seval, reduceCtorEq, dropF_ch, dropF_cons, dropF_nil, cut, cond_true, cond_false, Int.natCast_zero, Int.natCast_add, Int.natCast_one, e]; rfl) | skip)
  · have d1 : ¬ (k : Int) < (labelsL N).length := by omega
    have htq : List.take k (labelsL N) = labelsL N := List.take_of_length_le (by omega)
    simp (disch := omega) only [go_sem, seval, reduceCtorEq, d1, htq]
    (refine FnEnd.mk (Nat.le_of_ble_eq_true rfl) rfl (of_decide_eq_true rfl) ?_ ?_ <;> try simp only [go_sem, seval, reduceCtorEq])
    all_goals rfl
theorem l21Closed_d {N : Net} (h : NSz 1048576 N) (h1 : netOk N = true) : Does Try.prog 90 [netA N] [] (.own 0 0 (closedL N).length) [some ⟨1, true, iv (closedL N)⟩] := by
  have hl := (labelsL_sz N).len
  have hol := h.o.len
  have hlab : labelsL N = pickTo (labP N.ts) 100 := by simp [labelsL, h1]
  (refine spec_of (by kernel_rfl) Try.func90 k_spec_l21Closed (fnOk (Nat.le_of_ble_eq_true rfl) ?_); unfold C_spec_l21Closed)
  (simp only [Nat.reduceSub, List.length_cons, List.length_nil, Nat.reduceAdd, ch_init1, ch_init2, ch_init3, ch_init4, ch_init5, ch_init6, ch_init7, ch_init8]; try simp only [ch_rep]); (simp only [go_sem, seval, reduceCtorEq, List.replicate])
  (refine ti_call (l12Labels_d (ts := N.ts) h.l h.t (netOk_ax h1)) ?_ ?_ ?_; (focus (simp only [go_sem, seval, reduceCtorEq]; done)); (first | rfl | (focus (simp only [go_sem]; done))))
  rw [← hlab]
  simp only [go_sem, seval, reduceCtorEq]
  refine wpN_lp ((labelsL N).length) [false, false, false, false, false, true, true, false, false, false, false, false, true, true, true, true, true, true, true, true, true, true, true, true, true, false] (fun k => [(3, .own 1 0 (wol ((labelsL N).take k) N.os).length), (11, .d (.int k))]) (fun k => [(1, iv (wol ((labelsL N).take k) N.os))]) (fun _ => by (simp only [go_sem, seval, reduceCtorEq, dropF_ch, dropF_cons, dropF_nil, cut, cond_true, cond_false]); first | done | rfl) (fun _ => by (simp only [go_sem, seval, reduceCtorEq, cut]); first | done | rfl) (Nat.le_of_ble_eq_true rfl) (by first | (simp only [go_sem, seval, reduceCtorEq, dropF_ch, dropF_cons, dropF_nil, cut, cond_true, cond_false, Int.natCast_zero, Int.natCast_add, Int.natCast_one, List.take_zero, wol, List.filter_nil, iv_nil]; done) | rfl | (simp only [go_sem, seval, reduceCtorEq, dropF_ch, dropF_cons, dropF_nil, cut, cond_true, cond_false, Int.natCast_zero, Int.natCast_add, Int.natCast_one, List.take_zero, wol, List.filter_nil, iv_nil]; rfl)) (by first | (simp only [go_sem, seval, reduceCtorEq, dropF_ch, dropF_cons, dropF_nil, cut, cond_true, cond_false, Int.natCast_zero, Int.natCast_add, Int.natCast_one, List.take_zero, wol, List.filter_nil, iv_nil]; done) | rfl | (simp only [go_sem, seval, reduceCtorEq, dropF_ch, dropF_cons, dropF_nil, cut, cond_true, cond_false, Int.natCast_zero, Int.natCast_add, Int.natCast_one, List.take_zero, wol, List.filter_nil, iv_nil]; rfl)) fun k hk => ?_
  unfold L0_spec_l21Closed
  have hwl := wol_len ((labelsL N).take k) N.os
  have htk : ((labelsL N).take k).length ≤ (labelsL N).length := by rw [List.length_take]; omega
  by_cases hlt : k < (labelsL N).length
  · have d1 : (k : Int) < (labelsL N).length := by omega
    have g : (labelsL N)[k]? = some (labelsL N)[k] := List.getElem?_eq_getElem hlt
    simp (disch := omega) only [go_sem, seval, reduceCtorEq, d1, g]
    (refine ti_call (l05Find_d (xs := N.os) (x := (labelsL N)[k]) (by omega)) ?_ ?_ ?_; (focus (simp only [go_sem, seval, reduceCtorEq]; done)); (first | rfl | (focus (simp only [go_sem]; done))))
    by_cases he : (labelsL N)[k] ∈ N.os
    · have c : ¬ place N.os (labelsL N)[k] < 0 := fun e => place_neg.1 e he
      have e : wol ((labelsL N).take (k + 1)) N.os = wol ((labelsL N).take k) N.os := filter_no (p := fun x => !has N.os x) hlt (by rw [has_true.2 he]; rfl)
      simp (disch := omega) only [go_sem, seval, reduceCtorEq, c]
      (refine Next.drop [false, false, false, false, false, true, true, false, false, false, false, false, true, true, true, true, true, true, true, true, true, true, true, true, true, false] (by omega) (Nat.le_of_ble_eq_true rfl) ?_ ?_ <;> first | (simp only [go_sem, seval, reduceCtorEq, dropF_ch, dropF_cons, dropF_nil, cut, cond_true, cond_false, Int.natCast_zero, Int.natCast_add, Int.natCast_one, e]; done) | rfl | (simp only [go_sem, seval, reduceCtorEq, dropF_ch, dropF_cons, dropF_nil, cut, cond_true, cond_false, Int.natCast_zero, Int.natCast_add, Int.natCast_one, e]; rfl) | skip)
    · have c : place N.os (labelsL N)[k] < 0 := place_neg.2 he
      have e : wol ((labelsL N).take (k + 1)) N.os = wol ((labelsL N).take k) N.os ++ [(labelsL N)[k]] := filter_yes (p := fun x => !has N.os x) hlt (by rw [has_false.2 he]; rfl)
      simp (disch := omega) only [go_sem, seval, reduceCtorEq, c]
      refine ⟨by omega, ?_⟩
      (refine Next.drop [false, false, false, false, false, true, true, false, false, false, false, false, true, true, true, true, true, true, true, true, true, true, true, true, true, false] (by omega) (Nat.le_of_ble_eq_true rfl) ?_ ?_ <;> first | (simp only [go_sem, seval, reduceCtorEq, dropF_ch, dropF_cons, dropF_nil, cut, cond_true, cond_false, Int.natCast_zero, Int.natCast_add, Int.natCast_one, e, List.length_append]; done) | rfl | (simp only [go_sem, seval, reduceCtorEq, dropF_ch, dropF_cons, dropF_nil, cut, cond_true, cond_false, Int.natCast_zero, Int.natCast_add, Int.natCast_one, e, List.length_append]; rfl) | skip)
  · have d1 : ¬ (k : Int) < (labelsL N).length := by omega
    have htq : List.take k (labelsL N) = labelsL N := List.take_of_length_le (by omega)
    simp (disch := omega) only [go_sem, seval, reduceCtorEq, d1, htq]
    (refine FnEnd.mk (Nat.le_of_ble_eq_true rfl) rfl (of_decide_eq_true rfl) ?_ ?_ <;> try simp only [go_sem, seval, reduceCtorEq])
    all_goals rfl
theorem sClosedLabels_d {N : Net} (h : NSz 1048576 N) : Does Try.prog 49 [netA N] [] (.own 0 0 (closedL N).length) [some ⟨1, true, iv (closedL N)⟩] := by
  (refine spec_of (by kernel_rfl) Try.func49 k_spec_ClosedLabels (fnOk (Nat.le_of_ble_eq_true rfl) ?_); unfold C_spec_ClosedLabels)
  (simp only [Nat.reduceSub, List.length_cons, List.length_nil, Nat.reduceAdd, ch_init1, ch_init2, ch_init3, ch_init4, ch_init5, ch_init6, ch_init7, ch_init8]; try simp only [ch_rep]); (simp only [go_sem, seval, reduceCtorEq, List.replicate])
  (refine ti_call (sNetworkOk_d h) ?_ ?_ ?_; (focus (simp only [go_sem, seval, reduceCtorEq]; done)); (first | rfl | (focus (simp only [go_sem]; done))))
  cases h1 : netOk N
  · have e : closedL N = [] := by simp [closedL, labelsL, h1, wol]
    simp only [go_sem, seval, reduceCtorEq, h1, e]
    refine FnEnd.wk (Wk.nilE 2 1 _ _ rfl) ?_
    (refine FnEnd.mk (Nat.le_of_ble_eq_true rfl) rfl (of_decide_eq_true rfl) ?_ ?_ <;> try simp only [go_sem, seval, reduceCtorEq])
  simp only [go_sem, seval, reduceCtorEq, h1]
  (refine ti_call (l21Closed_d h h1) ?_ ?_ ?_; (focus (simp only [go_sem, seval, reduceCtorEq]; done)); (first | rfl | (focus (simp only [go_sem]; done))))
  simp only [go_sem, seval, reduceCtorEq]
  (refine FnEnd.mk (Nat.le_of_ble_eq_true rfl) rfl (of_decide_eq_true rfl) ?_ ?_ <;> try simp only [go_sem, seval, reduceCtorEq])
noncomputable def elimOk (N : Net) (L : List Int) : Bool := netOk N && sameB (closedL N) L
theorem iEliminationOk_d {N : Net} {L : List Int} (h : NSz 1048576 N) (hL : Sz 1048576 L) : Does Try.prog 46 [netA N, .d (ints L)] [] (.d (.bool (elimOk N L))) [] := by
  have hl := (closedL_sz N).len
  (refine spec_of (by kernel_rfl) Try.func46 k_impl_EliminationOk (fnOk (Nat.le_of_ble_eq_true rfl) ?_); unfold C_impl_EliminationOk)
  (simp only [Nat.reduceSub, List.length_cons, List.length_nil, Nat.reduceAdd, ch_init1, ch_init2, ch_init3, ch_init4, ch_init5, ch_init6, ch_init7, ch_init8]; try simp only [ch_rep]); (simp only [go_sem, seval, reduceCtorEq, List.replicate])
  (refine ti_call (iNetworkOk_d h) ?_ ?_ ?_; (focus (simp only [go_sem, seval, reduceCtorEq]; done)); (first | rfl | (focus (simp only [go_sem]; done))))
  cases h1 : netOk N
  · have e : elimOk N L = false := by simp [elimOk, h1]
    simp only [go_sem, seval, reduceCtorEq, h1, e]
    (refine FnEnd.mk (Nat.le_of_ble_eq_true rfl) rfl (of_decide_eq_true rfl) ?_ ?_ <;> try simp only [go_sem, seval, reduceCtorEq])
  have e : elimOk N L = sameB (closedL N) L := by simp [elimOk, h1]
  simp only [go_sem, seval, reduceCtorEq, h1]
  (refine ti_call (iClosedLabels_d h) ?_ ?_ ?_; (focus (simp only [go_sem, seval, reduceCtorEq]; done)); (first | rfl | (focus (simp only [go_sem]; done))))
  simp only [go_sem, seval, reduceCtorEq]
  (refine ti_call (sameLabels_d (ls := closedL N) (L := L) (by omega) hL.up.len) ?_ ?_ ?_; (focus (simp only [go_sem, seval, reduceCtorEq]; done)); (first | rfl | (focus (simp only [go_sem]; done))))
  simp only [go_sem, seval, reduceCtorEq, e]
  (refine FnEnd.mk (Nat.le_of_ble_eq_true rfl) rfl (of_decide_eq_true rfl) ?_ ?_ <;> try simp only [go_sem, seval, reduceCtorEq])
theorem sEliminationOk_d {N : Net} {L : List Int} (h : NSz 1048576 N) (hL : Sz 1048576 L) : Does Try.prog 45 [netA N, .d (ints L)] [] (.d (.bool (elimOk N L))) [] := by
  have hl := (closedL_sz N).len
  (refine spec_of (by kernel_rfl) Try.func45 k_spec_EliminationOk (fnOk (Nat.le_of_ble_eq_true rfl) ?_); unfold C_spec_EliminationOk)
  (simp only [Nat.reduceSub, List.length_cons, List.length_nil, Nat.reduceAdd, ch_init1, ch_init2, ch_init3, ch_init4, ch_init5, ch_init6, ch_init7, ch_init8]; try simp only [ch_rep]); (simp only [go_sem, seval, reduceCtorEq, List.replicate])
  (refine ti_call (sNetworkOk_d h) ?_ ?_ ?_; (focus (simp only [go_sem, seval, reduceCtorEq]; done)); (first | rfl | (focus (simp only [go_sem]; done))))
  cases h1 : netOk N
  · have e : elimOk N L = false := by simp [elimOk, h1]
    simp only [go_sem, seval, reduceCtorEq, h1, e]
    (refine FnEnd.mk (Nat.le_of_ble_eq_true rfl) rfl (of_decide_eq_true rfl) ?_ ?_ <;> try simp only [go_sem, seval, reduceCtorEq])
  have e : elimOk N L = sameB (closedL N) L := by simp [elimOk, h1]
  simp only [go_sem, seval, reduceCtorEq, h1]
  (refine ti_call (l21Closed_d h h1) ?_ ?_ ?_; (focus (simp only [go_sem, seval, reduceCtorEq]; done)); (first | rfl | (focus (simp only [go_sem]; done))))
  simp only [go_sem, seval, reduceCtorEq]
  (refine ti_call (l06Set_d (ls := closedL N) (L := L) (by omega) hL.up.len) ?_ ?_ ?_; (focus (simp only [go_sem, seval, reduceCtorEq]; done)); (first | rfl | (focus (simp only [go_sem]; done))))
  simp only [go_sem, seval, reduceCtorEq, e]
  (refine FnEnd.mk (Nat.le_of_ble_eq_true rfl) rfl (of_decide_eq_true rfl) ?_ ?_ <;> try simp only [go_sem, seval, reduceCtorEq])
end Go.Proofs.Ytbebaoibniajpaa
