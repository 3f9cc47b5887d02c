/-
  Plain lists: pairs of the tensors that are there, by number and by place. No condition.
-/
import Derived.Test.YtjncdanegoileaaPlO
namespace Go.Proofs.Ytjncdanegoileaa
open Plain
set_option linter.unusedSimpArgs false
set_option linter.unusedVariables false

/-- All pairs of a list, each with the later ones. -/
def prs : List Nat → List (Nat × Nat)
  | [] => []
  | x :: l => l.map (fun y => (x, y)) ++ prs l
/-- How many pairs stand before row i. -/
def cRow (m : Nat) : Nat → Nat
  | 0 => 0
  | i + 1 => cRow m i + (m - 1 - i)
theorem cRow_up (m : Nat) : ∀ i, i < m → cRow (m + 1) (i + 1) = m + cRow m i
  | 0, _ => by simp [cRow]
  | i + 1, h => by
    rw [cRow, cRow_up m i (by omega), cRow]
    omega
theorem prs_len : ∀ l : List Nat, (prs l).length = cRow l.length (l.length - 1)
  | [] => rfl
  | x :: l => by
    have ih := prs_len l
    simp only [prs, List.length_append, List.length_map, List.length_cons, Nat.add_sub_cancel]
    rw [ih]
    cases hl : l.length with
    | zero => rfl
    | succ n =>
      rw [Nat.add_sub_cancel, cRow_up (n + 1) n (by omega)]
theorem cRow_two : ∀ m : Nat, 2 * cRow (m + 1) m = (m + 1) * m
  | 0 => rfl
  | m + 1 => by
    have ih := cRow_two m
    rw [cRow_up (m + 1) m (by omega), Nat.mul_add, ih, show (m + 1 + 1) * (m + 1) = (m + 1) * (m + 1) + 1 * (m + 1) from Nat.add_mul .., show (m + 1) * (m + 1) = (m + 1) * m + (m + 1) from Nat.mul_succ ..]
    omega
theorem prs_half {l : List Nat} (h : 1 ≤ l.length) : (prs l).length = l.length * (l.length - 1) / 2 := by
  obtain ⟨m, hm⟩ : ∃ m, l.length = m + 1 := ⟨l.length - 1, by omega⟩
  have := cRow_two m
  rw [prs_len, hm, Nat.add_sub_cancel]
  omega
theorem prs_row : ∀ (l : List Nat) (i q : Nat), (hi : i < l.length) → (hj : i + 1 + q < l.length) → (prs l)[cRow l.length i + q]? = some (l[i], l[i + 1 + q])
  | x :: l, 0, q, _, hj => by
    have hq : q < l.length := by simp at hj; omega
    simp only [prs, cRow, Nat.zero_add]
    rw [List.getElem?_append_left (by simpa using hq)]
    simp [hq, Nat.add_comm 1 q]
  | x :: l, i + 1, q, hi, hj => by
    have hi' : i < l.length := by simpa using hi
    have hj' : i + 1 + q < l.length := by simp at hj; omega
    have h2 := prs_row l i q hi' hj'
    simp only [prs, List.length_cons]
    rw [cRow_up _ _ hi', List.getElem?_append_right (by simp; omega)]
    simp only [List.length_map]
    rw [show l.length + cRow l.length i + q - l.length = cRow l.length i + q by omega, h2]
    have e : i + 1 + 1 + q = (i + 1 + q) + 1 := by omega
    simp only [List.getElem_cons_succ, e]
theorem prs_mem : ∀ {l : List Nat} {p : Nat × Nat}, p ∈ prs l → p.1 ∈ l ∧ p.2 ∈ l
  | x :: l, p, h => by
    simp only [prs, List.mem_append, List.mem_map] at h
    rcases h with ⟨y, hy, rfl⟩ | h
    · exact ⟨List.mem_cons_self .., List.mem_cons_of_mem _ hy⟩
    · have := prs_mem h
      exact ⟨List.mem_cons_of_mem _ this.1, List.mem_cons_of_mem _ this.2⟩
theorem prs_sorted : ∀ {l : List Nat}, l.Pairwise (· < ·) → prs l = l.flatMap fun x => (l.filter fun y => decide (x < y)).map fun y => (x, y)
  | [], _ => rfl
  | x :: l, h => by
    rw [List.pairwise_cons] at h
    have ih := prs_sorted h.2
    have e1 : (x :: l).filter (fun y => decide (x < y)) = l := by
      rw [List.filter_cons_of_neg (by simp)]
      exact List.filter_eq_self.2 fun y hy => by simpa using h.1 y hy
    rw [List.flatMap_cons, e1, prs, ih]
    congr 1
    refine flatMap_congr' fun y hy => ?_
    have := h.1 y hy
    rw [List.filter_cons_of_neg (by simp; omega)]
/-- The pairs of x with the later ones below b. -/
def rowTo (s : Osd) (a b : Nat) : List (Nat × Nat) := if s.alive a = true then ((List.range b).filter fun y => decide (a < y) && s.alive y).map fun y => (a, y) else []
def pairTo (s : Osd) (a : Nat) : List (Nat × Nat) := (List.range a).flatMap fun x => rowTo s x s.all.length
theorem nums_sorted (s : Osd) : s.nums.Pairwise (· < ·) := List.Pairwise.filter _ List.pairwise_lt_range
theorem flatMap_if {α β : Type} (p : α → Bool) (g : α → List β) : ∀ l : List α, (l.flatMap fun x => if p x = true then g x else []) = (l.filter p).flatMap g
  | [] => rfl
  | x :: l => by
    rw [List.flatMap_cons, flatMap_if p g l]
    cases h : p x
    · rw [List.filter_cons_of_neg (by simp [h])]; simp
    · rw [List.filter_cons_of_pos h, List.flatMap_cons]; simp
theorem pairTo_all (s : Osd) : pairTo s s.all.length = prs s.nums := by
  rw [prs_sorted (nums_sorted s)]
  unfold pairTo rowTo
  rw [flatMap_if]
  refine flatMap_congr' fun x hx => ?_
  congr 1
  rw [Osd.nums, List.filter_filter]
theorem pairTo_next (s : Osd) (a : Nat) : pairTo s (a + 1) = pairTo s a ++ rowTo s a s.all.length := by
  unfold pairTo
  rw [List.range_succ, List.flatMap_append]
  simp
theorem rowTo_zero (s : Osd) (a : Nat) : rowTo s a (a + 1) = [] := by
  unfold rowTo
  split
  · rw [List.map_eq_nil_iff, List.filter_eq_nil_iff]
    intro y hy
    have : y < a + 1 := by simpa using hy
    simp
    omega
  · rfl
theorem rowTo_yes {s : Osd} {a b : Nat} (h : a < b) (ha : s.alive a = true) (hb : s.alive b = true) : rowTo s a (b + 1) = rowTo s a b ++ [(a, b)] := by
  unfold rowTo
  rw [if_pos ha, if_pos ha, List.range_succ, List.filter_append, List.map_append]
  simp [h, hb]
theorem rowTo_no {s : Osd} {a b : Nat} (h : (s.alive a && s.alive b) = false) : rowTo s a (b + 1) = rowTo s a b := by
  unfold rowTo
  split
  · rename_i ha
    rw [ha, Bool.true_and] at h
    rw [List.range_succ, List.filter_append]
    simp [h]
  · rfl
/-- Pairs as a flat list. -/
def flatP (l : List (Nat × Nat)) : List Int := l.flatMap fun p => [(p.1 : Int), (p.2 : Int)]
theorem flatP_len (l : List (Nat × Nat)) : (flatP l).length = l.length * 2 := by
  induction l with
  | nil => rfl
  | cons x l ih => rw [flatP, List.flatMap_cons, List.length_append, ← flatP, ih]; simp; omega
theorem flatP_snoc (l : List (Nat × Nat)) (p : Nat × Nat) : flatP l ++ [(p.1 : Int), (p.2 : Int)] = flatP (l ++ [p]) := by simp [flatP]
theorem flatP_drop : ∀ {l : List (Nat × Nat)} {k : Nat} (h : k < l.length), (flatP l).drop (k * 2) = (l[k].1 : Int) :: (l[k].2 : Int) :: flatP (l.drop (k + 1))
  | x :: l, 0, _ => by simp [flatP]
  | x :: l, k + 1, h => by
    have := flatP_drop (l := l) (k := k) (by simpa using h)
    rw [flatP, List.flatMap_cons, ← flatP, show (k + 1) * 2 = 2 + k * 2 by omega, ← List.drop_drop]
    simpa using this
theorem flatP_cut {l : List (Nat × Nat)} {k : Nat} (h : k < l.length) : ((flatP l).drop (k * 2)).take 2 = [(l[k].1 : Int), (l[k].2 : Int)] := by rw [flatP_drop h]; rfl
end Go.Proofs.Ytjncdanegoileaa
