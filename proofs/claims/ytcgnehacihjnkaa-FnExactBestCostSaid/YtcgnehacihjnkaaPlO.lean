/-
  Plain lists: the tensors that are there while an order is followed. No condition.
-/
import Derived.Test.YtcgnehacihjnkaaCoS
import Derived.Test.YtcgnehacihjnkaaPlN
namespace Go.Proofs.Ytcgnehacihjnkaa
open Plain
set_option linter.unusedSimpArgs false
set_option linter.unusedVariables false

structure Osd where
  all : List (List Int)
  gone : List Bool
namespace Osd
def alive (s : Osd) (i : Nat) : Bool := !(s.gone.getD i true)
def nums (s : Osd) : List Nat := (List.range s.all.length).filter s.alive
def lab (s : Osd) (i : Nat) : List Int := s.all.getD i []
def off (a b : Nat) (i : Nat) : Bool := i != a && i != b
def keep (s : Osd) (os : List Int) (a b : Nat) : List Int := os ++ (s.nums.filter (off a b)).flatMap s.lab
def res (s : Osd) (os : List Int) (a b : Nat) : List Int := (joinL (s.lab a) (s.lab b)).filter (has (s.keep os a b))
def step (s : Osd) (os : List Int) (a b : Nat) : Osd := ⟨s.all ++ [s.res os a b], (s.gone.set a true).set b true ++ [false]⟩
end Osd
structure OsOk (s : Osd) (m : Nat) : Prop where
  gl : s.gone.length = s.all.length
  lab : ∀ l ∈ s.all, l.Nodup ∧ ∀ x ∈ l, 0 ≤ x ∧ x ≤ 99
  n : s.all.length = m
section
variable {s : Osd} {os : List Int} {a b m : Nat}
theorem OsOk.at (h : OsOk s m) (i : Nat) : (s.lab i).Nodup ∧ ∀ x ∈ s.lab i, 0 ≤ x ∧ x ≤ 99 := by
  unfold Osd.lab
  by_cases hi : i < s.all.length
  · rw [List.getD_eq_getElem?_getD, List.getElem?_eq_getElem hi]; exact h.lab _ (List.getElem_mem hi)
  · rw [List.getD_eq_getElem?_getD, List.getElem?_eq_none (by omega)]; simp
theorem OsOk.len (h : OsOk s m) (i : Nat) : (s.lab i).length ≤ 100 := nodup_len (h.at i).1 (h.at i).2
theorem OsOk.join (h : OsOk s m) (a b : Nat) : (joinL (s.lab a) (s.lab b)).Nodup ∧ (∀ x ∈ joinL (s.lab a) (s.lab b), 0 ≤ x ∧ x ≤ 99) ∧ (joinL (s.lab a) (s.lab b)).length ≤ 100 := by
  have h1 := joinL_nodup (h.at a).1 (h.at b).1
  have h2 : ∀ x ∈ joinL (s.lab a) (s.lab b), 0 ≤ x ∧ x ≤ 99 := fun x hx => (mem_joinL.1 hx).elim ((h.at a).2 x) ((h.at b).2 x)
  exact ⟨h1, h2, nodup_len h1 h2⟩
theorem OsOk.res (h : OsOk s m) (os : List Int) (a b : Nat) : (s.res os a b).Nodup ∧ ∀ x ∈ s.res os a b, 0 ≤ x ∧ x ≤ 99 :=
  ⟨(h.join a b).1.filter _, fun x hx => (h.join a b).2.1 x (List.mem_filter.1 hx).1⟩
theorem OsOk.step (h : OsOk s m) (os : List Int) (a b : Nat) : OsOk (s.step os a b) (m + 1) := by
  refine ⟨by simp [Osd.step, h.gl], fun l hl => ?_, by simp [Osd.step, h.n]⟩
  simp only [Osd.step, List.mem_append, List.mem_singleton] at hl
  rcases hl with hl | rfl
  · exact h.lab l hl
  · exact h.res os a b
theorem lab_step (h : OsOk s m) {i : Nat} (hi : i < m) : (s.step os a b).lab i = s.lab i := by
  unfold Osd.lab Osd.step
  simp only
  rw [List.getD_eq_getElem?_getD, List.getElem?_append_left (by rw [h.n]; exact hi), ← List.getD_eq_getElem?_getD]
theorem lab_step_new (h : OsOk s m) : (s.step os a b).lab m = s.res os a b := by
  unfold Osd.lab
  rw [List.getD_eq_getElem?_getD, Osd.step, List.getElem?_append_right (by rw [h.n]; exact Nat.le_refl _), h.n]
  simp
/-! ### A valid order -/
end
end Go.Proofs.Ytcgnehacihjnkaa
