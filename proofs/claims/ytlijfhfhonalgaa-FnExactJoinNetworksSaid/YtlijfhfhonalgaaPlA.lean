/-
  Lists of which a part has been written: the first k members are the new ones. No condition.
-/
import Derived.Test.YtlijfhfhonalgaaLift28
import Derived.Test.YtlijfhfhonalgaaPlainA
namespace Go.Proofs.Ytlijfhfhonalgaa

theorem Sz.up {m : Nat} {xs : List Int} (h : Sz 1048576 xs) (hm : 1048576 ≤ m := by omega) : Sz m xs := ⟨Nat.le_trans h.len hm, h.wf⟩
theorem TSz.up {m : Nat} {t : Ten} (h : TSz 1048576 t) (hm : 1048576 ≤ m := by omega) : TSz m t := ⟨h.l.up hm, h.d.up hm, h.x.up hm⟩
def mix (l r : List Int) (k : Nat) : List Int := l.take k ++ r.drop k
section
variable {l r : List Int} {k : Nat}
theorem mix_zero : mix l r 0 = r := by simp [mix]
theorem mix_full (h : r.length ≤ k) (h' : l.length ≤ k) : mix l r k = l := by simp [mix, List.drop_eq_nil_of_le h, List.take_of_length_le h']
theorem mix_len (h : l.length = r.length) : (mix l r k).length = l.length := by simp [mix]; omega
theorem mix_next {x : Int} (h : l.length = r.length) (hx : l[k]? = some x) : (mix l r k).take k ++ [x] ++ (mix l r k).drop (k + 1) = mix l r (k + 1) := by
  have hk : k < l.length := (List.getElem?_eq_some_iff.1 hx).1
  have e : x = l[k] := by rw [List.getElem?_eq_getElem hk] at hx; simpa using hx.symm
  subst e
  unfold mix
  rw [List.take_append_of_le_length (by simp; omega), List.take_of_length_le (by simp; omega), List.drop_append, List.drop_eq_nil_of_le (by simp; omega), List.nil_append, List.drop_drop, List.take_succ_eq_append_getElem hk,
    List.append_assoc, List.append_assoc, List.length_take, show k + (k + 1 - min k l.length) = k + 1 by omega]
theorem put_set {n : Nat} {x : Int} {xs : List Int} (h : n < xs.length) : xs.take n ++ [x] ++ xs.drop (n + 1) = xs.set n x := by
  rw [List.set_eq_take_append_cons_drop, if_pos h, List.append_assoc]
  rfl
end
end Go.Proofs.Ytlijfhfhonalgaa

/-
  Lists: members, places, what is filtered, joined axes. No condition.
-/
namespace Go.Proofs.Ytlijfhfhonalgaa
open Plain

theorem take_ss {α : Type} {xs : List α} {k : Nat} (h : k < xs.length) : xs.take (k + 1) = xs.take k ++ [xs[k]] := List.take_succ_eq_append_getElem h
theorem getD_of {xs : List Int} {k : Nat} (h : k < xs.length) : xs.getD k 0 = xs[k] := by simp [h]
theorem place_at {xs : List Int} {k : Nat} (hk : k < xs.length) (h : xs[k] ∉ xs.take k) : place xs xs[k] = k := by
  have := place_yes (xs := xs) (k := k) hk (by rw [getD_of hk]; exact h)
  rwa [getD_of hk] at this
theorem place_mem {xs : List Int} {x : Int} (h : x ∈ xs) : ∃ k : Nat, ∃ hk : k < xs.length, place xs x = k ∧ xs[k] = x ∧ x ∉ xs.take k := by
  refine ⟨xs.idxOf x, List.idxOf_lt_length_of_mem h, by simp [place, h], List.getElem_idxOf _, fun hm => ?_⟩
  have h1 : xs.idxOf x = (xs.take (xs.idxOf x) ++ xs.drop (xs.idxOf x)).idxOf x := by rw [List.take_append_drop]
  rw [List.idxOf_append, if_pos hm] at h1
  have h2 := List.idxOf_lt_length_of_mem hm
  rw [List.length_take] at h2
  omega
theorem not_mem_take {xs : List Int} {k : Nat} {x : Int} (h : k < xs.length) (h1 : x ∉ xs.take k) (h2 : x ≠ xs[k]) : x ∉ xs.take (k + 1) := by
  rw [take_ss h, List.mem_append]; simp [h1, h2]

/-! ### Joined axes -/
def dimAt (t : Ten) (l : Int) : Int := t.dims.getD (place t.labels l).toNat 0
theorem Plain.axOk.len {ls ds : List Int} (h : axOk ls ds) : ls.length = ds.length := h.2.1
theorem Plain.axOk.fresh {ls ds : List Int} (h : axOk ls ds) {k : Nat} (hk : k < ls.length) : ls[k] ∉ ls.take k := by
  have := (h.2.2 k hk).2.2.2.2
  rwa [getD_of hk] at this
theorem dimAt_get {t : Ten} (h : t.labels.length = t.dims.length) {l : Int} (hl : l ∈ t.labels) : ∃ i : Nat, i < t.labels.length ∧ i < t.dims.length ∧ place t.labels l = i ∧ t.dims[i]? = some (dimAt t l) := by
  obtain ⟨i, hi, e, _, _⟩ := place_mem hl
  refine ⟨i, hi, by omega, e, ?_⟩
  have hi' : i < t.dims.length := by omega
  simp [dimAt, e, hi']
theorem dimAt_at {t : Ten} (h : axOk t.labels t.dims) {k : Nat} (hk : k < t.labels.length) (hk' : k < t.dims.length) : dimAt t t.labels[k] = t.dims[k] := by
  simp [dimAt, place_at hk (h.fresh hk), hk']
theorem dimAt_bd {t : Ten} (h : axOk t.labels t.dims) {l : Int} (hl : l ∈ t.labels) : 1 ≤ dimAt t l ∧ dimAt t l ≤ 8 := by
  obtain ⟨i, _, hi, _, e⟩ := dimAt_get h.len hl
  rw [List.getElem?_eq_getElem hi] at e
  simp at e
  rw [← e]
  exact h.dim _ (List.getElem_mem _)
end Go.Proofs.Ytlijfhfhonalgaa

/-
  Plain lists: products in a ring. No condition.
-/
namespace Go.Proofs.Ytlijfhfhonalgaa
open Plain
set_option linter.unusedSimpArgs false
set_option linter.unusedVariables false

def lowP (p : Int) (xs : List Int) : Prop := ∀ k, k < xs.length → 0 ≤ xs.getD k 0 ∧ xs.getD k 0 < p
theorem lowP.at {p : Int} {xs : List Int} (h : lowP p xs) (hp : 0 < p) (k : Nat) : 0 ≤ xs.getD k 0 ∧ xs.getD k 0 < p := by
  by_cases hk : k < xs.length
  · exact h k hk
  · simp [List.getD_eq_getElem?_getD, List.getElem?_eq_none (Nat.le_of_not_lt hk), hp]
theorem lowP.set {p : Int} {xs : List Int} {n : Nat} {v : Int} (h : lowP p xs) (hv : 0 ≤ v ∧ v < p) : lowP p (xs.set n v) := by
  intro k hk
  have hk' : k < xs.length := by simpa using hk
  rw [List.getD_eq_getElem?_getD, List.getElem?_set]
  split
  · split
    · simpa using hv
    · simp; omega
  · exact h k hk'
end Go.Proofs.Ytlijfhfhonalgaa

/-
  Plain lists: how far the next value of a label is, offsets as sums, the next index. No condition.
-/
namespace Go.Proofs.Ytlijfhfhonalgaa
open Plain
set_option linter.unusedSimpArgs false
set_option linter.unusedVariables false

/-! ### The next index -/
/-! ### Lists of the same labels -/
end Go.Proofs.Ytlijfhfhonalgaa

/-
  Plain lists: an index filled in label by label; slices of a box of indices. No condition.
-/
namespace Go.Proofs.Ytlijfhfhonalgaa
open Plain
set_option linter.unusedSimpArgs false
set_option linter.unusedVariables false

end Go.Proofs.Ytlijfhfhonalgaa

/-
  Plain lists: the indices of a slice of a box, in their order. No condition.
-/
namespace Go.Proofs.Ytlijfhfhonalgaa
open Plain
set_option linter.unusedSimpArgs false
set_option linter.unusedVariables false

end Go.Proofs.Ytlijfhfhonalgaa
