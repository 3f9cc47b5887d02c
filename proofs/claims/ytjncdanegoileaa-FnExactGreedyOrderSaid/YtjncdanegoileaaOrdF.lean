/-
  Contracts: pairs, seeds, random orders. No condition.
-/
import Derived.Test.YtjncdanegoileaaPlP
import Derived.Test.YtjncdanegoileaaPlK
import Derived.Test.YtjncdanegoileaaOrdT
namespace Go.Proofs.Ytjncdanegoileaa
open Go.RowKit Go.Lift Plain
set_option linter.unusedSimpArgs false
set_option linter.unusedVariables false
set_option maxRecDepth 100000

theorem iv_flat (l : List (Nat × Nat)) (a b : Nat) : iv (flatP l) ++ [.d (.int (a : Int)), .d (.int (b : Int))] = iv (flatP (l ++ [(a, b)])) := by rw [← flatP_snoc]; simp [iv]
theorem l19Pairs_d {T : List Int} {s : Osd} {m : Nat} (h : OsOk s m) (hm : m ≤ 1000) :
    Does Try.prog 71 [osQ T s] [] (.own 0 0 (prs s.nums).length) [some ⟨2, true, iv (flatP (prs s.nums))⟩] := by
  have hn := h.n
  have hg := h.gl
  have hz : pairTo s 0 = [] := rfl
  have hz2 : flatP [] = [] := rfl
  have hb1 : ∀ a b, (rowTo s a b).length ≤ b := fun a b => by
    unfold rowTo
    split
    · rw [List.length_map]; exact Nat.le_trans (List.length_filter_le _ _) (by simp)
    · simp
  have hb2 : ∀ a, (pairTo s a).length ≤ a * 1000 := fun a => by
    induction a with
    | zero => simp [pairTo]
    | succ a ih =>
      have := hb1 a s.all.length
      rw [pairTo_next, List.length_append]
      omega
  (refine spec_of (by kernel_rfl) Try.func71 k_spec_l19Pairs (fnOk (Nat.le_of_ble_eq_true rfl) ?_); unfold C_spec_l19Pairs)
  simp only [osQ]
  (simp only [Nat.reduceSub, List.length_cons, List.length_nil, Nat.reduceAdd, ch_init1, ch_init2, ch_init3, ch_init4, ch_init5, ch_init6, ch_init7, ch_init8]; try simp only [ch_rep]); (simp only [go_sem, seval, reduceCtorEq, List.replicate])
  refine wpN_lp (s.all.length) [false, false, false, false, true, true, true, false, false, false, false, false, false, true, true, true, true, true, true, true, true, true, true, true, true, true, true, true, true, true, true, true, true, true, true, true, true, true, true, true, true, true, true, true, true, true, true, true, true, true, true, false] (fun k => [(12, .d (.int k)), (3, .own 0 0 (pairTo s k).length)]) (fun k => [(0, iv (flatP (pairTo s k)))]) (fun _ => by (simp only [go_sem, seval, reduceCtorEq, dropF_ch, dropF_cons, dropF_nil, cut, cond_true, cond_false]); first | done | rfl) (fun _ => by (simp only [go_sem, seval, reduceCtorEq, cut]); first | done | rfl) (Nat.le_of_ble_eq_true rfl) (by first | (simp only [go_sem, seval, reduceCtorEq, dropF_ch, dropF_cons, dropF_nil, cut, cond_true, cond_false, Int.natCast_zero, Int.natCast_add, Int.natCast_one, hz, hz2, iv_nil]; done) | rfl | (simp only [go_sem, seval, reduceCtorEq, dropF_ch, dropF_cons, dropF_nil, cut, cond_true, cond_false, Int.natCast_zero, Int.natCast_add, Int.natCast_one, hz, hz2, iv_nil]; rfl)) (by first | (simp only [go_sem, seval, reduceCtorEq, dropF_ch, dropF_cons, dropF_nil, cut, cond_true, cond_false, Int.natCast_zero, Int.natCast_add, Int.natCast_one, hz, hz2, iv_nil]; done) | rfl | (simp only [go_sem, seval, reduceCtorEq, dropF_ch, dropF_cons, dropF_nil, cut, cond_true, cond_false, Int.natCast_zero, Int.natCast_add, Int.natCast_one, hz, hz2, iv_nil]; rfl)) fun k hk => ?_
  unfold L1_spec_l19Pairs
  have hpl := hb2 k
  have hfl := flatP_len (pairTo s k)
  by_cases hlt : k < s.all.length
  · have d1 : (k : Int) < s.all.length := by omega
    have hr0 := rowTo_zero s k
    simp (disch := omega) only [go_sem, seval, reduceCtorEq, d1]
    refine wpN_lp (s.all.length - (k + 1)) [false, false, false, false, false, false, false, false, false, false, false, false, false, false, false, false, false, true, true, true, true, true, true, true, true, true, true, true, true, true, true, true, true, true, true, true, true, true, true, true, true, true, true, true, true, true, true, true, true, true, false, false] (fun q => [(5, .d (.int ((k + 1 + q : Nat) : Int))), (3, .own 0 0 (pairTo s k ++ rowTo s k (k + 1 + q)).length)]) (fun q => [(0, iv (flatP (pairTo s k ++ rowTo s k (k + 1 + q))))]) (fun _ => by (simp only [go_sem, seval, reduceCtorEq, dropF_ch, dropF_cons, dropF_nil, cut, cond_true, cond_false]); first | done | rfl) (fun _ => by (simp only [go_sem, seval, reduceCtorEq, cut]); first | done | rfl) (Nat.le_of_ble_eq_true rfl) (by first | (simp only [go_sem, seval, reduceCtorEq, dropF_ch, dropF_cons, dropF_nil, cut, cond_true, cond_false, Int.natCast_zero, Int.natCast_add, Int.natCast_one, hr0, List.append_nil, Int.add_zero]; done) | rfl | (simp only [go_sem, seval, reduceCtorEq, dropF_ch, dropF_cons, dropF_nil, cut, cond_true, cond_false, Int.natCast_zero, Int.natCast_add, Int.natCast_one, hr0, List.append_nil, Int.add_zero]; rfl)) (by first | (simp only [go_sem, seval, reduceCtorEq, dropF_ch, dropF_cons, dropF_nil, cut, cond_true, cond_false, Int.natCast_zero, Int.natCast_add, Int.natCast_one, hr0, List.append_nil, Int.add_zero]; done) | rfl | (simp only [go_sem, seval, reduceCtorEq, dropF_ch, dropF_cons, dropF_nil, cut, cond_true, cond_false, Int.natCast_zero, Int.natCast_add, Int.natCast_one, hr0, List.append_nil, Int.add_zero]; rfl)) fun q hq => ?_
    unfold L0_spec_l19Pairs
    have hrl := hb1 k (k + 1 + q)
    have hal : (pairTo s k ++ rowTo s k (k + 1 + q)).length = (pairTo s k).length + (rowTo s k (k + 1 + q)).length := List.length_append
    have hfl2 := flatP_len (pairTo s k ++ rowTo s k (k + 1 + q))
    have hq1 : (k : Int) + 1 + q + 1 = k + 1 + (q + 1) := by omega
    by_cases hltq : k + 1 + q < s.all.length
    · have d2 : ((k + 1 + q : Nat) : Int) < s.all.length := by omega
      have d3 : (k : Int) < s.gone.length := by omega
      have d4 : ((k + 1 + q : Nat) : Int) < s.gone.length := by omega
      have g1 : s.gone[k]? = some (!s.alive k) := by
        rw [List.getElem?_eq_getElem (by omega), Osd.alive, List.getD_eq_getElem?_getD, List.getElem?_eq_getElem (by omega)]; simp
      have g2 : s.gone[k + 1 + q]? = some (!s.alive (k + 1 + q)) := by
        rw [List.getElem?_eq_getElem (by omega), Osd.alive, List.getD_eq_getElem?_getD, List.getElem?_eq_getElem (by omega)]; simp
      have hsame : k + 1 + (q + 1) = (k + 1 + q) + 1 := by omega
      cases e1 : s.alive k
      · have e := rowTo_no (s := s) (a := k) (b := k + 1 + q) (by rw [e1]; rfl)
        rw [← hsame] at e
        simp (disch := omega) only [go_sem, seval, reduceCtorEq, d2, d3, g1, e1]
        (refine Next.drop [false, false, false, false, false, false, false, false, false, false, false, false, false, false, false, false, false, true, true, true, true, true, true, true, true, true, true, true, true, true, true, true, true, true, true, true, true, true, true, true, true, true, true, true, true, true, true, true, true, true, false, false] (by omega) (Nat.le_of_ble_eq_true rfl) ?_ ?_ <;> first | (simp only [go_sem, seval, reduceCtorEq, dropF_ch, dropF_cons, dropF_nil, cut, cond_true, cond_false, Int.natCast_zero, Int.natCast_add, Int.natCast_one, e, hq1]; done) | rfl | (simp only [go_sem, seval, reduceCtorEq, dropF_ch, dropF_cons, dropF_nil, cut, cond_true, cond_false, Int.natCast_zero, Int.natCast_add, Int.natCast_one, e, hq1]; rfl) | skip)
      · cases e2 : s.alive (k + 1 + q)
        · have e := rowTo_no (s := s) (a := k) (b := k + 1 + q) (by rw [e2, Bool.and_false])
          rw [← hsame] at e
          simp (disch := omega) only [go_sem, seval, reduceCtorEq, d2, d3, d4, g1, g2, e1, e2]
          (refine Next.drop [false, false, false, false, false, false, false, false, false, false, false, false, false, false, false, false, false, true, true, true, true, true, true, true, true, true, true, true, true, true, true, true, true, true, true, true, true, true, true, true, true, true, true, true, true, true, true, true, true, true, false, false] (by omega) (Nat.le_of_ble_eq_true rfl) ?_ ?_ <;> first | (simp only [go_sem, seval, reduceCtorEq, dropF_ch, dropF_cons, dropF_nil, cut, cond_true, cond_false, Int.natCast_zero, Int.natCast_add, Int.natCast_one, e, hq1]; done) | rfl | (simp only [go_sem, seval, reduceCtorEq, dropF_ch, dropF_cons, dropF_nil, cut, cond_true, cond_false, Int.natCast_zero, Int.natCast_add, Int.natCast_one, e, hq1]; rfl) | skip)
        · have e := rowTo_yes (s := s) (a := k) (b := k + 1 + q) (by omega) e1 e2
          rw [← hsame] at e
          have hrow := iv_flat (pairTo s k ++ rowTo s k (k + 1 + q)) k (k + 1 + q)
          rw [List.append_assoc, ← e] at hrow
          simp (disch := omega) only [go_sem, seval, reduceCtorEq, d2, d3, d4, g1, g2, e1, e2]
          (repeat (refine And.intro (by omega) ?_))
          simp only [hrow]
          (refine Next.drop [false, false, false, false, false, false, false, false, false, false, false, false, false, false, false, false, false, true, true, true, true, true, true, true, true, true, true, true, true, true, true, true, true, true, true, true, true, true, true, true, true, true, true, true, true, true, true, true, true, true, false, false] (by omega) (Nat.le_of_ble_eq_true rfl) ?_ ?_ <;> first | (simp only [go_sem, seval, reduceCtorEq, dropF_ch, dropF_cons, dropF_nil, cut, cond_true, cond_false, Int.natCast_zero, Int.natCast_add, Int.natCast_one, e, hq1, ← List.append_assoc, List.length_append]; done) | rfl | (simp only [go_sem, seval, reduceCtorEq, dropF_ch, dropF_cons, dropF_nil, cut, cond_true, cond_false, Int.natCast_zero, Int.natCast_add, Int.natCast_one, e, hq1, ← List.append_assoc, List.length_append]; rfl) | skip)
    · have d2 : ¬ ((k + 1 + q : Nat) : Int) < s.all.length := by omega
      have e : k + 1 + q = s.all.length := by omega
      have hn2 := pairTo_next s k
      rw [← e] at hn2
      simp (disch := omega) only [go_sem, seval, reduceCtorEq, d2]
      (refine Next.drop [false, false, false, false, true, true, true, false, false, false, false, false, false, true, true, true, true, true, true, true, true, true, true, true, true, true, true, true, true, true, true, true, true, true, true, true, true, true, true, true, true, true, true, true, true, true, true, true, true, true, true, false] (by omega) (Nat.le_of_ble_eq_true rfl) ?_ ?_ <;> first | (simp only [go_sem, seval, reduceCtorEq, dropF_ch, dropF_cons, dropF_nil, cut, cond_true, cond_false, Int.natCast_zero, Int.natCast_add, Int.natCast_one, hn2]; done) | rfl | (simp only [go_sem, seval, reduceCtorEq, dropF_ch, dropF_cons, dropF_nil, cut, cond_true, cond_false, Int.natCast_zero, Int.natCast_add, Int.natCast_one, hn2]; rfl) | skip)
  · have d1 : ¬ (k : Int) < s.all.length := by omega
    obtain rfl : k = s.all.length := by omega
    simp (disch := omega) only [go_sem, seval, reduceCtorEq, d1, pairTo_all]
    (refine FnEnd.mk (Nat.le_of_ble_eq_true rfl) rfl (of_decide_eq_true rfl) ?_ ?_ <;> try simp only [go_sem, seval, reduceCtorEq])
/-! ### Seeds -/
/-! ### Random orders -/
structure Rnd where
  s : Osd
  seed : Int
  ps : List (Nat × Nat)
theorem off_len {l : List Nat} (hn : l.Nodup) {a b : Nat} (ha : a ∈ l) (hb : b ∈ l) (hab : a ≠ b) : (l.filter (Osd.off a b)).length + 2 = l.length := by
  have e : l.filter (Osd.off a b) = (l.erase a).erase b := by
    rw [List.Nodup.erase_eq_filter hn, List.Nodup.erase_eq_filter (hn.filter _), List.filter_filter]
    refine List.filter_congr fun x _ => ?_
    unfold Osd.off
    rw [Bool.and_comm]
  have h1 := List.length_erase_of_mem ha
  have h2 := List.length_erase_of_mem (show b ∈ l.erase a from (List.Nodup.mem_erase_iff hn).2 ⟨hab.symm, hb⟩)
  have h3 := List.length_pos_of_mem ha
  have h4 := List.length_pos_of_mem (show b ∈ l.erase a from (List.Nodup.mem_erase_iff hn).2 ⟨hab.symm, hb⟩)
  rw [e]
  omega
theorem prs_ne : ∀ {l : List Nat} {p : Nat × Nat}, l.Nodup → p ∈ prs l → p.1 ≠ p.2
  | x :: l, p, h, hp => by
    rw [List.nodup_cons] at h
    simp only [prs, List.mem_append, List.mem_map] at hp
    rcases hp with ⟨y, hy, rfl⟩ | hp
    · exact fun e => h.1 (by simp only at e; rw [e]; exact hy)
    · exact prs_ne h.2 hp
/-- What is known of a state with q tensors, after k steps. -/
structure RndOk (os : List Int) (r : Rnd) (m q : Nat) : Prop where
  ok : OsOk r.s m
  n : r.s.nums.length = q
theorem step_nums {os : List Int} {s : Osd} {m q : Nat} {p : Nat × Nat} (h : OsOk s m) (hn : s.nums.length = q + 2) (hp : p ∈ prs s.nums) : (s.step os p.1 p.2).nums.length = q + 1 := by
  have h1 := prs_mem hp
  have h2 := off_len (nums_nodup s) h1.1 h1.2 (prs_ne (nums_nodup s) hp)
  rw [nums_step h, List.length_append, List.length_singleton]
  omega
theorem prs_pos {l : List Nat} {q : Nat} (h : l.length = q + 2) : 0 < (prs l).length := by
  rw [prs_half (by omega), h]
  have : (q + 2) * (q + 2 - 1) = (q + 1) * q + 2 * (q + 1) := by
    rw [show q + 2 - 1 = q + 1 by omega, show q + 2 = (q + 1) + 1 by omega, Nat.add_mul, Nat.mul_add]; omega
  rw [this]
  omega
/-! ### By the program -/
end Go.Proofs.Ytjncdanegoileaa
