/-
  Contracts: orders of least degree. No condition.
-/
import Derived.Test.YtcgnehacihjnkaaEliB
namespace Go.Proofs.Ytcgnehacihjnkaa
open Go.RowKit Go.Lift Plain
set_option linter.unusedSimpArgs false
set_option linter.unusedVariables false
set_option maxRecDepth 100000

def bestTo (L : List (List Int)) (left : List Int) : Nat → Int
  | 0 => -1
  | k + 1 => if bestTo L left k < 0 ∨ (bucket L (left.getD k 0)).length < (bucket L (bestTo L left k)).length then left.getD k 0 else bestTo L left k
def widTo (L : List (List Int)) (left : List Int) (k : Nat) : Int := if k = 0 then 0 else ((bucket L (bestTo L left k)).length : Int)
def bestS (L : List (List Int)) (left : List Int) (k : Nat) : Int := if k = 0 then left.getD 0 0 else bestTo L left k
section
variable {L : List (List Int)} {left : List Int} {k : Nat}
theorem bestTo_mem (hb : ∀ x ∈ left, 0 ≤ x ∧ x ≤ 99) : ∀ k, 1 ≤ k → k ≤ left.length → bestTo L left k ∈ left
  | 0, h, _ => by omega
  | k + 1, _, h => by
    have hk : left.getD k 0 ∈ left := by rw [getD_of (by omega)]; exact List.getElem_mem _
    rw [bestTo]
    split
    · exact hk
    · rename_i hc
      by_cases h0 : k = 0
      · subst h0
        exact absurd (.inl (by simp [bestTo])) hc
      · exact bestTo_mem hb k (by omega) (by omega)
theorem best_yes (h : k < left.length) (hc : bestTo L left k < 0 ∨ (bucket L left[k]).length < (bucket L (bestTo L left k)).length) : bestTo L left (k + 1) = left[k] := by
  rw [bestTo, getD_of h, if_pos hc]
theorem best_no (h : k < left.length) (hc : ¬ (bestTo L left k < 0 ∨ (bucket L left[k]).length < (bucket L (bestTo L left k)).length)) : bestTo L left (k + 1) = bestTo L left k := by
  rw [bestTo, getD_of h, if_neg hc]
theorem wid_next : widTo L left (k + 1) = ((bucket L (bestTo L left (k + 1))).length : Int) := by rw [widTo, if_neg (by omega)]
theorem bestS_zero (h : 0 < left.length) : bestS L left 0 = left[0] := by rw [bestS, if_pos rfl, getD_of h]
theorem bestS_pos (h : k ≠ 0) : bestS L left k = bestTo L left k := by rw [bestS, if_neg h]
theorem bestS_step (hb : ∀ x ∈ left, 0 ≤ x ∧ x ≤ 99) (h : k < left.length) : bestS L left (k + 1) = if (bucket L left[k]).length < (bucket L (bestS L left k)).length then left[k] else bestS L left k := by
  rw [bestS_pos (by omega)]
  by_cases h0 : k = 0
  · subst h0
    rw [bestS_zero h, best_yes h (.inl (by simp [bestTo]))]
    simp
  · rw [bestS_pos h0]
    have hm := hb _ (bestTo_mem (L := L) hb k (by omega) (by omega))
    by_cases hc : (bucket L left[k]).length < (bucket L (bestTo L left k)).length
    · rw [if_pos hc, best_yes h (.inr hc)]
    · rw [if_neg hc, best_no h (by omega)]
end
structure MD where
  left : List Int
  ls : List (List Int)
  ord : List Int
def mdTo (left0 : List Int) (L0 : List (List Int)) : Nat → MD
  | 0 => ⟨left0, L0, []⟩
  | k + 1 => ⟨(mdTo left0 L0 k).left.filter (· != bestTo (mdTo left0 L0 k).ls (mdTo left0 L0 k).left (mdTo left0 L0 k).left.length), elimL (mdTo left0 L0 k).ls (bestTo (mdTo left0 L0 k).ls (mdTo left0 L0 k).left (mdTo left0 L0 k).left.length), (mdTo left0 L0 k).ord ++ [bestTo (mdTo left0 L0 k).ls (mdTo left0 L0 k).left (mdTo left0 L0 k).left.length]⟩
structure MdOk (left0 : List Int) (L0 : List (List Int)) (k : Nat) (s : MD) : Prop where
  len : s.left.length + k = left0.length
  nd : s.left.Nodup
  sub : ∀ x ∈ s.left, x ∈ left0
  ok : LOk s.ls
  ll : s.ls.length ≤ L0.length + k
  ol : s.ord.length = k
  om : ∀ x ∈ s.ord, x ∈ left0
theorem mdTo_ok {left0 : List Int} {L0 : List (List Int)} (h : LOk L0) (hn : left0.Nodup) (hb : ∀ x ∈ left0, 0 ≤ x ∧ x ≤ 99) : ∀ k, k ≤ left0.length → MdOk left0 L0 k (mdTo left0 L0 k)
  | 0, _ => ⟨rfl, hn, fun _ h => h, h, Nat.le_refl _, rfl, fun _ h => by cases h⟩
  | k + 1, hk => by
    have ih := mdTo_ok h hn hb k (by omega)
    have hlen := ih.len
    have hm := bestTo_mem (L := (mdTo left0 L0 k).ls) (fun x hx => hb x (ih.sub x hx)) (mdTo left0 L0 k).left.length (by omega) (Nat.le_refl _)
    have hll := ih.ll
    have hol := ih.ol
    generalize hbe : bestTo (mdTo left0 L0 k).ls (mdTo left0 L0 k).left (mdTo left0 L0 k).left.length = b at *
    have hel := elimL_len (mdTo left0 L0 k).ls b
    refine ⟨?_, ?_, ?_, ?_, ?_, ?_, ?_⟩ <;> simp only [mdTo, hbe]
    · rw [← ih.nd.erase_eq_filter b, List.length_erase_of_mem hm]
      omega
    · exact ih.nd.filter _
    · exact fun x hx => ih.sub x (List.mem_filter.1 hx).1
    · exact elimL_ok ih.ok _
    · omega
    · simp; omega
    · intro x hx
      rcases List.mem_append.1 hx with hx | hx
      · exact ih.om x hx
      · simp only [List.mem_singleton] at hx
        subst hx
        exact ih.sub _ hm
theorem pickTo_nodup (p : Nat → Bool) (n : Nat) : (pickTo p n).Nodup := by
  unfold pickTo
  have h1 : ((List.range n).filter p).Nodup := List.nodup_range.filter _
  generalize (List.range n).filter p = l at h1
  induction l with
  | nil => simp
  | cons x l ih =>
    rw [List.nodup_cons] at h1
    rw [List.map_cons, List.nodup_cons]
    refine ⟨fun hm => ?_, ih h1.2⟩
    obtain ⟨y, hy, e⟩ := List.mem_map.1 hm
    exact h1.1 (by rwa [show x = y by omega])
theorem closedL_ok (N : Net) : (closedL N).Nodup ∧ ∀ x ∈ closedL N, 0 ≤ x ∧ x ≤ 99 := by
  have h1 : (labelsL N).Nodup ∧ ∀ x ∈ labelsL N, 0 ≤ x ∧ x ≤ 99 := by
    unfold labelsL
    split
    · refine ⟨pickTo_nodup _ _, fun x hx => ?_⟩
      obtain ⟨i, hi, _, rfl⟩ := pickTo_mem hx
      omega
    · simp
  exact ⟨h1.1.filter _, fun x hx => h1.2 x (wol_mem.1 hx).1⟩
theorem closedL_no {N : Net} (h : netOk N = false) : closedL N = [] := by simp [closedL, labelsL, h, wol]
noncomputable def minD (N : Net) : List Int := (mdTo (closedL N) (labL N.ts) (closedL N).length).ord
theorem minD_ok {N : Net} (h : netOk N = true) : ∀ k, k ≤ (closedL N).length → MdOk (closedL N) (labL N.ts) k (mdTo (closedL N) (labL N.ts) k) :=
  mdTo_ok (labL_ok (netOk_ax h)) (closedL_ok N).1 (closedL_ok N).2
theorem minD_sz (N : Net) : Sz 1048576 (minD N) := by
  have hc := closedL_ok N
  have hl := nodup_len hc.1 hc.2
  cases h : netOk N
  · have e : minD N = [] := by rw [minD, closedL_no h]; rfl
    rw [e]
    exact ⟨by simp, by simp⟩
  · have hk := minD_ok h (closedL N).length (Nat.le_refl _)
    refine ⟨by rw [minD, hk.ol]; omega, fun x hx => ?_⟩
    have := hc.2 x (hk.om x hx)
    exact ⟨by omega, by omega⟩
theorem iMinDegreeOrder_d {N : Net} (h : NSz 1048576 N) : Does Try.prog 44 [netA N] [] (.own 0 0 (minD N).length) [some ⟨1, true, iv (minD N)⟩] := by
  have hc := closedL_ok N
  have hcl := nodup_len hc.1 hc.2
  have hll := labL_len N.ts
  (refine spec_of (by kernel_rfl) Try.func44 k_impl_MinDegreeOrder (fnOk (Nat.le_of_ble_eq_true rfl) ?_); unfold C_impl_MinDegreeOrder)
  (simp only [Nat.reduceSub, List.length_cons, List.length_nil, Nat.reduceAdd, ch_init1, ch_init2, ch_init3, ch_init4, ch_init5, ch_init6, ch_init7, ch_init8]; try simp only [ch_rep]); (simp only [go_sem, seval, reduceCtorEq, List.replicate])
  (refine ti_call ((iClosedLabels_d h).fzI) ?_ ?_ ?_; (focus (simp only [go_sem, seval, reduceCtorEq]; done)); (first | rfl | (focus (simp only [go_sem]; done))))
  simp only [go_sem, seval, reduceCtorEq]
  (refine ti_call (labelLists_d h) ?_ ?_ ?_; (focus (simp only [go_sem, seval, reduceCtorEq]; done)); (first | rfl | (focus (simp only [go_sem]; done))))
  simp only [go_sem, seval, reduceCtorEq]
  (refine wpN_lwk (Wk.nilE 5 1 _ _ rfl) ?_; simp only [go_sem, seval, reduceCtorEq])
  have hz0 : (mdTo (closedL N) (labL N.ts) 0).left = closedL N := rfl
  have hz1 : (mdTo (closedL N) (labL N.ts) 0).ls = labL N.ts := rfl
  have hz2 : (mdTo (closedL N) (labL N.ts) 0).ord = [] := rfl
  refine wpN_lp ((closedL N).length) [false, false, false, false, false, false, true, true, false, true, true, false, false, false, false, true, true, true, true, true, true, true, true, true, true, true, true, true, true, true, true, true, true, true, true, true, true, true, true, true, true, true, true, true, true, true, true, true, false] (fun k => [(3, .d (ints (mdTo (closedL N) (labL N.ts) k).left)), (4, .d (lists (mdTo (closedL N) (labL N.ts) k).ls)), (5, .own 1 0 (mdTo (closedL N) (labL N.ts) k).ord.length)]) (fun k => [(1, iv (mdTo (closedL N) (labL N.ts) k).ord)]) (fun _ => by (simp only [go_sem, seval, reduceCtorEq, dropF_ch, dropF_cons, dropF_nil, cut, cond_true, cond_false]); first | done | rfl) (fun _ => by (simp only [go_sem, seval, reduceCtorEq, cut]); first | done | rfl) (Nat.le_of_ble_eq_true rfl) (by first | (simp only [go_sem, seval, reduceCtorEq, dropF_ch, dropF_cons, dropF_nil, cut, cond_true, cond_false, Int.natCast_zero, Int.natCast_add, Int.natCast_one, hz0, hz1, hz2, iv_nil, List.length_nil]; done) | rfl | (simp only [go_sem, seval, reduceCtorEq, dropF_ch, dropF_cons, dropF_nil, cut, cond_true, cond_false, Int.natCast_zero, Int.natCast_add, Int.natCast_one, hz0, hz1, hz2, iv_nil, List.length_nil]; rfl)) (by first | (simp only [go_sem, seval, reduceCtorEq, dropF_ch, dropF_cons, dropF_nil, cut, cond_true, cond_false, Int.natCast_zero, Int.natCast_add, Int.natCast_one, hz0, hz1, hz2, iv_nil, List.length_nil]; done) | rfl | (simp only [go_sem, seval, reduceCtorEq, dropF_ch, dropF_cons, dropF_nil, cut, cond_true, cond_false, Int.natCast_zero, Int.natCast_add, Int.natCast_one, hz0, hz1, hz2, iv_nil, List.length_nil]; rfl)) fun k hk => ?_
  unfold L1_impl_MinDegreeOrder
  by_cases hlt : k < (closedL N).length
  · have hok : netOk N = true := by
      cases h1 : netOk N
      · rw [closedL_no h1] at hlt; simp at hlt
      · rfl
    have hl12 := (netOk_iff.1 hok).2.1
    have hk1 := minD_ok hok k hk
    have hlen := hk1.len
    have hk2 := hk1.ok
    have hk3 := hk1.ll
    have hk4 := hk1.ol
    have hbl : ∀ x ∈ (mdTo (closedL N) (labL N.ts) k).left, 0 ≤ x ∧ x ≤ 99 := fun x hx => hc.2 x (hk1.sub x hx)
    have n0 : (mdTo (closedL N) (labL N.ts) (k + 1)).left = (mdTo (closedL N) (labL N.ts) k).left.filter (· != bestTo (mdTo (closedL N) (labL N.ts) k).ls (mdTo (closedL N) (labL N.ts) k).left (mdTo (closedL N) (labL N.ts) k).left.length) := rfl
    have n1 : (mdTo (closedL N) (labL N.ts) (k + 1)).ls = elimL (mdTo (closedL N) (labL N.ts) k).ls (bestTo (mdTo (closedL N) (labL N.ts) k).ls (mdTo (closedL N) (labL N.ts) k).left (mdTo (closedL N) (labL N.ts) k).left.length) := rfl
    have n2 : (mdTo (closedL N) (labL N.ts) (k + 1)).ord = (mdTo (closedL N) (labL N.ts) k).ord ++ [bestTo (mdTo (closedL N) (labL N.ts) k).ls (mdTo (closedL N) (labL N.ts) k).left (mdTo (closedL N) (labL N.ts) k).left.length] := rfl
    generalize (mdTo (closedL N) (labL N.ts) k).left = left at *
    generalize (mdTo (closedL N) (labL N.ts) k).ls = L at *
    generalize (mdTo (closedL N) (labL N.ts) k).ord = ord at *
    have d1 : (left.length : Int) > 0 := by omega
    simp (disch := omega) only [go_sem, seval, reduceCtorEq, d1]
    have hw0 : bestTo L left 0 = -1 := rfl
    have hw1 : widTo L left 0 = 0 := rfl
    refine wpN_lp (left.length) [false, false, false, false, false, false, false, false, false, true, true, false, false, false, false, false, false, false, false, false, false, true, true, true, true, true, true, true, true, true, true, true, true, true, true, true, true, true, false, false, false, false, false, false, false, false, false, false, false] (fun q => [(6, .d (.int (bestTo L left q))), (7, .d (.int (widTo L left q))), (20, .d (.int q))]) (fun q => []) (fun _ => by (simp only [go_sem, seval, reduceCtorEq, dropF_ch, dropF_cons, dropF_nil, cut, cond_true, cond_false]); first | done | rfl) (fun _ => by (simp only [go_sem, seval, reduceCtorEq, cut]); first | done | rfl) (Nat.le_of_ble_eq_true rfl) (by first | (simp only [go_sem, seval, reduceCtorEq, dropF_ch, dropF_cons, dropF_nil, cut, cond_true, cond_false, Int.natCast_zero, Int.natCast_add, Int.natCast_one, hw0, hw1]; done) | rfl | (simp only [go_sem, seval, reduceCtorEq, dropF_ch, dropF_cons, dropF_nil, cut, cond_true, cond_false, Int.natCast_zero, Int.natCast_add, Int.natCast_one, hw0, hw1]; rfl)) (by first | (simp only [go_sem, seval, reduceCtorEq, dropF_ch, dropF_cons, dropF_nil, cut, cond_true, cond_false, Int.natCast_zero, Int.natCast_add, Int.natCast_one, hw0, hw1]; done) | rfl | (simp only [go_sem, seval, reduceCtorEq, dropF_ch, dropF_cons, dropF_nil, cut, cond_true, cond_false, Int.natCast_zero, Int.natCast_add, Int.natCast_one, hw0, hw1]; rfl)) fun q hq => ?_
    unfold L0_impl_MinDegreeOrder
    by_cases hq : q < left.length
    · have d2 : (q : Int) < left.length := by omega
      have g : left[q]? = some left[q] := List.getElem?_eq_getElem hq
      simp (disch := omega) only [go_sem, seval, reduceCtorEq, d2, g]
      (refine ti_call (bucketLabels_d (L := L) (x := left[q]) hk2 (by omega)) ?_ ?_ ?_; (focus (simp only [go_sem, seval, reduceCtorEq]; done)); (first | rfl | (focus (simp only [go_sem]; done))))
      simp (disch := omega) only [go_sem, seval, reduceCtorEq]
      by_cases b1 : bestTo L left q < 0
      · have e := best_yes hq (.inl b1)
        have w := wid_next (L := L) (left := left) (k := q)
        simp (disch := omega) only [go_sem, seval, reduceCtorEq, b1]
        (refine Next.drop [false, false, false, false, false, false, false, false, false, true, true, false, false, false, false, false, false, false, false, false, false, true, true, true, true, true, true, true, true, true, true, true, true, true, true, true, true, true, false, false, false, false, false, false, false, false, false, false, false] (by omega) (Nat.le_of_ble_eq_true rfl) ?_ ?_ <;> first | (simp only [go_sem, seval, reduceCtorEq, dropF_ch, dropF_cons, dropF_nil, cut, cond_true, cond_false, Int.natCast_zero, Int.natCast_add, Int.natCast_one, e, w]; done) | rfl | (simp only [go_sem, seval, reduceCtorEq, dropF_ch, dropF_cons, dropF_nil, cut, cond_true, cond_false, Int.natCast_zero, Int.natCast_add, Int.natCast_one, e, w]; rfl) | skip)
      · have hq0 : q ≠ 0 := fun e => b1 (by rw [e]; show (-1 : Int) < 0; decide)
        have w0 : widTo L left q = ((bucket L (bestTo L left q)).length : Int) := by rw [widTo, if_neg hq0]
        have w := wid_next (L := L) (left := left) (k := q)
        by_cases b2 : (bucket L left[q]).length < (bucket L (bestTo L left q)).length
        · have e := best_yes hq (.inr b2)
          have c : ((bucket L left[q]).length : Int) < (bucket L (bestTo L left q)).length := by omega
          simp (disch := omega) only [go_sem, seval, reduceCtorEq, b1, w0, c]
          (refine Next.drop [false, false, false, false, false, false, false, false, false, true, true, false, false, false, false, false, false, false, false, false, false, true, true, true, true, true, true, true, true, true, true, true, true, true, true, true, true, true, false, false, false, false, false, false, false, false, false, false, false] (by omega) (Nat.le_of_ble_eq_true rfl) ?_ ?_ <;> first | (simp only [go_sem, seval, reduceCtorEq, dropF_ch, dropF_cons, dropF_nil, cut, cond_true, cond_false, Int.natCast_zero, Int.natCast_add, Int.natCast_one, e, w]; done) | rfl | (simp only [go_sem, seval, reduceCtorEq, dropF_ch, dropF_cons, dropF_nil, cut, cond_true, cond_false, Int.natCast_zero, Int.natCast_add, Int.natCast_one, e, w]; rfl) | skip)
        · have e := best_no (L := L) hq (by omega)
          have c : ¬ ((bucket L left[q]).length : Int) < (bucket L (bestTo L left q)).length := by omega
          simp (disch := omega) only [go_sem, seval, reduceCtorEq, b1, w0, c]
          (refine Next.drop [false, false, false, false, false, false, false, false, false, true, true, false, false, false, false, false, false, false, false, false, false, true, true, true, true, true, true, true, true, true, true, true, true, true, true, true, true, true, false, false, false, false, false, false, false, false, false, false, false] (by omega) (Nat.le_of_ble_eq_true rfl) ?_ ?_ <;> first | (simp only [go_sem, seval, reduceCtorEq, dropF_ch, dropF_cons, dropF_nil, cut, cond_true, cond_false, Int.natCast_zero, Int.natCast_add, Int.natCast_one, e, w]; done) | rfl | (simp only [go_sem, seval, reduceCtorEq, dropF_ch, dropF_cons, dropF_nil, cut, cond_true, cond_false, Int.natCast_zero, Int.natCast_add, Int.natCast_one, e, w]; rfl) | skip)
    · have d2 : ¬ (q : Int) < left.length := by omega
      obtain rfl : q = left.length := by omega
      simp (disch := omega) only [go_sem, seval, reduceCtorEq, d2]
      (repeat (refine And.intro (by omega) ?_))
      (refine ti_call (eliminateFrom_d (L := L) (x := bestTo L left left.length) hk2 (by omega)) ?_ ?_ ?_; (focus (simp only [go_sem, seval, reduceCtorEq]; done)); (first | rfl | (focus (simp only [go_sem]; done))))
      simp (disch := omega) only [go_sem, seval, reduceCtorEq]
      (refine ti_call (withoutInt_f (xs := left) (x := bestTo L left left.length) (by omega)) ?_ ?_ ?_; (focus (simp only [go_sem, seval, reduceCtorEq]; done)); (first | rfl | (focus (simp only [go_sem]; done))))
      simp (disch := omega) only [go_sem, seval, reduceCtorEq]
      (refine Next.drop [false, false, false, false, false, false, true, true, false, true, true, false, false, false, false, true, true, true, true, true, true, true, true, true, true, true, true, true, true, true, true, true, true, true, true, true, true, true, true, true, true, true, true, true, true, true, true, true, false] (by omega) (Nat.le_of_ble_eq_true rfl) ?_ ?_ <;> first | (simp only [go_sem, seval, reduceCtorEq, dropF_ch, dropF_cons, dropF_nil, cut, cond_true, cond_false, Int.natCast_zero, Int.natCast_add, Int.natCast_one, n0, n1, n2, List.length_append]; done) | rfl | (simp only [go_sem, seval, reduceCtorEq, dropF_ch, dropF_cons, dropF_nil, cut, cond_true, cond_false, Int.natCast_zero, Int.natCast_add, Int.natCast_one, n0, n1, n2, List.length_append]; rfl) | skip)
  · have hkn : k = (closedL N).length := by omega
    subst hkn
    have hleft : (mdTo (closedL N) (labL N.ts) (closedL N).length).left.length = 0 := by
      cases h1 : netOk N
      · have e := closedL_no h1
        rw [e]; rfl
      · have := (minD_ok h1 (closedL N).length (Nat.le_refl _)).len
        omega
    have d1 : ¬ ((mdTo (closedL N) (labL N.ts) (closedL N).length).left.length : Int) > 0 := by omega
    simp (disch := omega) only [go_sem, seval, reduceCtorEq, d1]
    (refine FnEnd.mk (Nat.le_of_ble_eq_true rfl) rfl (of_decide_eq_true rfl) ?_ ?_ <;> try simp only [go_sem, seval, reduceCtorEq])
    all_goals rfl
theorem l21Without_f {xs : List Int} {x : Int} (h : xs.length ≤ 1048576) : Does Try.prog 106 [.d (ints xs), .d (.int x)] [] (.d (ints (xs.filter (· != x)))) [] := (l21Without_d h).fzI
theorem sMinDegreeOrder_d {N : Net} (h : NSz 1048576 N) : Does Try.prog 43 [netA N] [] (.own 0 0 (minD N).length) [some ⟨1, true, iv (minD N)⟩] := by
  have hc := closedL_ok N
  have hcl := nodup_len hc.1 hc.2
  have hll := labL_len N.ts
  (refine spec_of (by kernel_rfl) Try.func43 k_spec_MinDegreeOrder (fnOk (Nat.le_of_ble_eq_true rfl) ?_); unfold C_spec_MinDegreeOrder)
  (simp only [Nat.reduceSub, List.length_cons, List.length_nil, Nat.reduceAdd, ch_init1, ch_init2, ch_init3, ch_init4, ch_init5, ch_init6, ch_init7, ch_init8]; try simp only [ch_rep]); (simp only [go_sem, seval, reduceCtorEq, List.replicate])
  (refine ti_call (sNetworkOk_d h) ?_ ?_ ?_; (focus (simp only [go_sem, seval, reduceCtorEq]; done)); (first | rfl | (focus (simp only [go_sem]; done))))
  cases hok : netOk N
  · have e : minD N = [] := by rw [minD, closedL_no hok]; rfl
    simp only [go_sem, seval, reduceCtorEq, hok, e]
    refine FnEnd.wk (Wk.nilE 2 1 _ _ rfl) ?_
    (refine FnEnd.mk (Nat.le_of_ble_eq_true rfl) rfl (of_decide_eq_true rfl) ?_ ?_ <;> try simp only [go_sem, seval, reduceCtorEq])
  simp only [go_sem, seval, reduceCtorEq, hok]
  (refine ti_call (l21Lists_d h) ?_ ?_ ?_; (focus (simp only [go_sem, seval, reduceCtorEq]; done)); (first | rfl | (focus (simp only [go_sem]; done))))
  simp only [go_sem, seval, reduceCtorEq]
  (refine ti_call ((l21Closed_d h hok).fzI) ?_ ?_ ?_; (focus (simp only [go_sem, seval, reduceCtorEq]; done)); (first | rfl | (focus (simp only [go_sem]; done))))
  simp only [go_sem, seval, reduceCtorEq]
  have hz0 : (mdTo (closedL N) (labL N.ts) 0).left = closedL N := rfl
  have hz1 : (mdTo (closedL N) (labL N.ts) 0).ls = labL N.ts := rfl
  have hz2 : (mdTo (closedL N) (labL N.ts) 0).ord = [] := rfl
  refine wpN_lp ((closedL N).length) [false, false, false, false, false, false, true, true, true, false, true, true, true, true, true, false, false, false, false, false, false, false, true, true, true, true, true, true, true, true, true, true, true, true, true, true, true, true, true, true, true, true, true, true, true, true, true, true, true, true, true, true, true, true, true, true, true, true, true, true, true, true, true, true, true, true, true, true, true, true, true, true, true, true, false] (fun k => [(4, .d (ints (mdTo (closedL N) (labL N.ts) k).left)), (3, .d (lists (mdTo (closedL N) (labL N.ts) k).ls)), (5, .own 1 0 (mdTo (closedL N) (labL N.ts) k).ord.length)]) (fun k => [(1, iv (mdTo (closedL N) (labL N.ts) k).ord)]) (fun _ => by (simp only [go_sem, seval, reduceCtorEq, dropF_ch, dropF_cons, dropF_nil, cut, cond_true, cond_false]); first | done | rfl) (fun _ => by (simp only [go_sem, seval, reduceCtorEq, cut]); first | done | rfl) (Nat.le_of_ble_eq_true rfl) (by first | (simp only [go_sem, seval, reduceCtorEq, dropF_ch, dropF_cons, dropF_nil, cut, cond_true, cond_false, Int.natCast_zero, Int.natCast_add, Int.natCast_one, hz0, hz1, hz2, iv_nil, List.length_nil]; done) | rfl | (simp only [go_sem, seval, reduceCtorEq, dropF_ch, dropF_cons, dropF_nil, cut, cond_true, cond_false, Int.natCast_zero, Int.natCast_add, Int.natCast_one, hz0, hz1, hz2, iv_nil, List.length_nil]; rfl)) (by first | (simp only [go_sem, seval, reduceCtorEq, dropF_ch, dropF_cons, dropF_nil, cut, cond_true, cond_false, Int.natCast_zero, Int.natCast_add, Int.natCast_one, hz0, hz1, hz2, iv_nil, List.length_nil]; done) | rfl | (simp only [go_sem, seval, reduceCtorEq, dropF_ch, dropF_cons, dropF_nil, cut, cond_true, cond_false, Int.natCast_zero, Int.natCast_add, Int.natCast_one, hz0, hz1, hz2, iv_nil, List.length_nil]; rfl)) fun k hk => ?_
  unfold L1_spec_MinDegreeOrder
  by_cases hlt : k < (closedL N).length
  · have hl12 := (netOk_iff.1 hok).2.1
    have hk1 := minD_ok hok k hk
    have hlen := hk1.len
    have hk2 := hk1.ok
    have hk3 := hk1.ll
    have hk4 := hk1.ol
    have hbl : ∀ x ∈ (mdTo (closedL N) (labL N.ts) k).left, 0 ≤ x ∧ x ≤ 99 := fun x hx => hc.2 x (hk1.sub x hx)
    have n0 : (mdTo (closedL N) (labL N.ts) (k + 1)).left = (mdTo (closedL N) (labL N.ts) k).left.filter (· != bestTo (mdTo (closedL N) (labL N.ts) k).ls (mdTo (closedL N) (labL N.ts) k).left (mdTo (closedL N) (labL N.ts) k).left.length) := rfl
    have n1 : (mdTo (closedL N) (labL N.ts) (k + 1)).ls = elimL (mdTo (closedL N) (labL N.ts) k).ls (bestTo (mdTo (closedL N) (labL N.ts) k).ls (mdTo (closedL N) (labL N.ts) k).left (mdTo (closedL N) (labL N.ts) k).left.length) := rfl
    have n2 : (mdTo (closedL N) (labL N.ts) (k + 1)).ord = (mdTo (closedL N) (labL N.ts) k).ord ++ [bestTo (mdTo (closedL N) (labL N.ts) k).ls (mdTo (closedL N) (labL N.ts) k).left (mdTo (closedL N) (labL N.ts) k).left.length] := rfl
    generalize (mdTo (closedL N) (labL N.ts) k).left = left at *
    generalize (mdTo (closedL N) (labL N.ts) k).ls = L at *
    generalize (mdTo (closedL N) (labL N.ts) k).ord = ord at *
    have hleft0 : 0 < left.length := by omega
    have d1 : (left.length : Int) > 0 := by omega
    have d1' : (0 : Int) < left.length := by omega
    have g0 : left[0]? = some left[0] := List.getElem?_eq_getElem hleft0
    have hb0 := bucket_len hk2 left[0]
    have hs0 : bestS L left 0 = left[0] := bestS_zero hleft0
    simp (disch := omega) only [go_sem, seval, reduceCtorEq, d1, d1', g0]
    (repeat (refine And.intro (by omega) ?_))
    (refine ti_call (l21Bucket_d (L := L) (x := left[0]) hk2 (by omega)) ?_ ?_ ?_; (focus (simp only [go_sem, seval, reduceCtorEq]; done)); (first | rfl | (focus (simp only [go_sem]; done))))
    simp (disch := omega) only [go_sem, seval, reduceCtorEq]
    (refine wpN_lwk (Wk.freeze 2 (Nat.le_of_ble_eq_true rfl) rfl (cellsD_iv) rfl rfl) ?_); (simp only [go_sem, seval, reduceCtorEq, List.take_length])
    refine wpN_lp (left.length) [false, false, false, false, false, false, false, false, false, false, true, true, true, false, false, false, false, false, false, false, false, false, false, false, false, false, false, false, false, false, false, false, false, false, false, false, false, false, true, true, true, true, true, true, true, true, true, true, true, true, true, true, true, true, true, false, false, false, false, false, false, false, false, false, false, false, false, false, false, false, false, false, false, false, false] (fun q => [(6, .d (.int (bestS L left q))), (7, .d (ints (bucket L (bestS L left q)))), (37, .d (.int q))]) (fun q => []) (fun _ => by (simp only [go_sem, seval, reduceCtorEq, dropF_ch, dropF_cons, dropF_nil, cut, cond_true, cond_false]); first | done | rfl) (fun _ => by (simp only [go_sem, seval, reduceCtorEq, cut]); first | done | rfl) (Nat.le_of_ble_eq_true rfl) (by first | (simp only [go_sem, seval, reduceCtorEq, dropF_ch, dropF_cons, dropF_nil, cut, cond_true, cond_false, Int.natCast_zero, Int.natCast_add, Int.natCast_one, hs0]; done) | rfl | (simp only [go_sem, seval, reduceCtorEq, dropF_ch, dropF_cons, dropF_nil, cut, cond_true, cond_false, Int.natCast_zero, Int.natCast_add, Int.natCast_one, hs0]; rfl)) (by first | (simp only [go_sem, seval, reduceCtorEq, dropF_ch, dropF_cons, dropF_nil, cut, cond_true, cond_false, Int.natCast_zero, Int.natCast_add, Int.natCast_one, hs0]; done) | rfl | (simp only [go_sem, seval, reduceCtorEq, dropF_ch, dropF_cons, dropF_nil, cut, cond_true, cond_false, Int.natCast_zero, Int.natCast_add, Int.natCast_one, hs0]; rfl)) fun q hq => ?_
    unfold L0_spec_MinDegreeOrder
    by_cases hq : q < left.length
    · have d2 : (q : Int) < left.length := by omega
      have g : left[q]? = some left[q] := List.getElem?_eq_getElem hq
      have hst := bestS_step (L := L) hbl hq
      have hbq := bucket_len hk2 left[q]
      simp (disch := omega) only [go_sem, seval, reduceCtorEq, d2, g]
      (refine ti_call (l21Bucket_d (L := L) (x := left[q]) hk2 (by omega)) ?_ ?_ ?_; (focus (simp only [go_sem, seval, reduceCtorEq]; done)); (first | rfl | (focus (simp only [go_sem]; done))))
      simp (disch := omega) only [go_sem, seval, reduceCtorEq]
      by_cases b2 : (bucket L left[q]).length < (bucket L (bestS L left q)).length
      · rw [if_pos b2] at hst
        have c : ((bucket L left[q]).length : Int) < (bucket L (bestS L left q)).length := by omega
        simp (disch := omega) only [go_sem, seval, reduceCtorEq, c]
        (refine Next.wk (Wk.freeze 4 (Nat.le_of_ble_eq_true rfl) rfl (cellsD_iv) rfl rfl) ?_); (simp only [go_sem, seval, reduceCtorEq, mapL_two, List.take_length])
        (refine Next.drop [false, false, false, false, false, false, false, false, false, false, true, true, true, false, false, false, false, false, false, false, false, false, false, false, false, false, false, false, false, false, false, false, false, false, false, false, false, false, true, true, true, true, true, true, true, true, true, true, true, true, true, true, true, true, true, false, false, false, false, false, false, false, false, false, false, false, false, false, false, false, false, false, false, false, false] (by omega) (Nat.le_of_ble_eq_true rfl) ?_ ?_ <;> first | (simp only [go_sem, seval, reduceCtorEq, dropF_ch, dropF_cons, dropF_nil, cut, cond_true, cond_false, Int.natCast_zero, Int.natCast_add, Int.natCast_one, hst]; done) | rfl | (simp only [go_sem, seval, reduceCtorEq, dropF_ch, dropF_cons, dropF_nil, cut, cond_true, cond_false, Int.natCast_zero, Int.natCast_add, Int.natCast_one, hst]; rfl) | skip)
      · rw [if_neg b2] at hst
        have c : ¬ ((bucket L left[q]).length : Int) < (bucket L (bestS L left q)).length := by omega
        simp (disch := omega) only [go_sem, seval, reduceCtorEq, c]
        (refine Next.drop [false, false, false, false, false, false, false, false, false, false, true, true, true, false, false, false, false, false, false, false, false, false, false, false, false, false, false, false, false, false, false, false, false, false, false, false, false, false, true, true, true, true, true, true, true, true, true, true, true, true, true, true, true, true, true, false, false, false, false, false, false, false, false, false, false, false, false, false, false, false, false, false, false, false, false] (by omega) (Nat.le_of_ble_eq_true rfl) ?_ ?_ <;> first | (simp only [go_sem, seval, reduceCtorEq, dropF_ch, dropF_cons, dropF_nil, cut, cond_true, cond_false, Int.natCast_zero, Int.natCast_add, Int.natCast_one, hst]; done) | rfl | (simp only [go_sem, seval, reduceCtorEq, dropF_ch, dropF_cons, dropF_nil, cut, cond_true, cond_false, Int.natCast_zero, Int.natCast_add, Int.natCast_one, hst]; rfl) | skip)
    · have d2 : ¬ (q : Int) < left.length := by omega
      obtain rfl : q = left.length := by omega
      have hsl : bestS L left left.length = bestTo L left left.length := bestS_pos (by omega)
      simp (disch := omega) only [go_sem, seval, reduceCtorEq, d2, hsl]
      generalize bestTo L left left.length = b at *
      have hbb := bucket_len hk2 b
      have hrl := restTo_len (L := L) (x := b) (k := L.length)
      (refine ti_call (l21Bucket_d (L := L) (x := b) hk2 (by omega)) ?_ ?_ ?_; (focus (simp only [go_sem, seval, reduceCtorEq]; done)); (first | rfl | (focus (simp only [go_sem]; done))))
      simp (disch := omega) only [go_sem, seval, reduceCtorEq]
      (refine ti_call (l21Without_d (xs := bucket L b) (x := b) (by omega)) ?_ ?_ ?_; (focus (simp only [go_sem, seval, reduceCtorEq]; done)); (first | rfl | (focus (simp only [go_sem]; done))))
      simp (disch := omega) only [go_sem, seval, reduceCtorEq]
      (repeat (refine And.intro (by omega) ?_))
      (refine ti_call (l21Without_f (xs := left) (x := b) (by omega)) ?_ ?_ ?_; (focus (simp only [go_sem, seval, reduceCtorEq]; done)); (first | rfl | (focus (simp only [go_sem]; done))))
      simp (disch := omega) only [go_sem, seval, reduceCtorEq]
      (repeat (refine And.intro (by omega) ?_))
      have hT : (ldv (restTo L b L.length ++ [(bucket L b).filter (· != b)])).take ((restTo L b L.length).length + 1) = ldv (restTo L b L.length ++ [(bucket L b).filter (· != b)]) := List.take_of_length_le (by simp [ldv])
      (refine Next.wk (Wk.freeze 6 (Nat.le_of_ble_eq_true rfl) rfl (cellsD_iv) rfl rfl) ?_); (simp only [go_sem, seval, reduceCtorEq, mapL_two])
      (refine Next.wk (Wk.freeze 5 (Nat.le_of_ble_eq_true rfl) rfl (cellsD_lsA) rfl rfl) ?_); (simp only [go_sem, seval, reduceCtorEq, mapL_two, hT])
      (refine Next.drop [false, false, false, false, false, false, true, true, true, false, true, true, true, true, true, false, false, false, false, false, false, false, true, true, true, true, true, true, true, true, true, true, true, true, true, true, true, true, true, true, true, true, true, true, true, true, true, true, true, true, true, true, true, true, true, true, true, true, true, true, true, true, true, true, true, true, true, true, true, true, true, true, true, true, false] (by omega) (Nat.le_of_ble_eq_true rfl) ?_ ?_ <;> first | (simp only [go_sem, seval, reduceCtorEq, dropF_ch, dropF_cons, dropF_nil, cut, cond_true, cond_false, Int.natCast_zero, Int.natCast_add, Int.natCast_one, n0, n1, n2, elimL, List.length_append]; done) | rfl | (simp only [go_sem, seval, reduceCtorEq, dropF_ch, dropF_cons, dropF_nil, cut, cond_true, cond_false, Int.natCast_zero, Int.natCast_add, Int.natCast_one, n0, n1, n2, elimL, List.length_append]; rfl) | skip)
  · have hkn : k = (closedL N).length := by omega
    subst hkn
    have hleft : (mdTo (closedL N) (labL N.ts) (closedL N).length).left.length = 0 := by
      have := (minD_ok hok (closedL N).length (Nat.le_refl _)).len
      omega
    have d1 : ¬ ((mdTo (closedL N) (labL N.ts) (closedL N).length).left.length : Int) > 0 := by omega
    simp (disch := omega) only [go_sem, seval, reduceCtorEq, d1]
    (refine FnEnd.mk (Nat.le_of_ble_eq_true rfl) rfl (of_decide_eq_true rfl) ?_ ?_ <;> try simp only [go_sem, seval, reduceCtorEq])
    all_goals rfl
end Go.Proofs.Ytcgnehacihjnkaa
