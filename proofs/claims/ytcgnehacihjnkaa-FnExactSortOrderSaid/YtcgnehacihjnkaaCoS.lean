/-
  Contracts: the same labels in any order. No condition.
-/
import Derived.Test.YtcgnehacihjnkaaCoB
import Derived.Test.YtcgnehacihjnkaaPlA
namespace Go.Proofs.Ytcgnehacihjnkaa
open Go.RowKit Go.Lift Plain
set_option linter.unusedSimpArgs false
set_option linter.unusedVariables false
set_option maxRecDepth 100000

/-- The same labels, in any order. -/
def sameB (ls L : List Int) : Bool := decide (L.length = ls.length ∧ ∀ k (hk : k < L.length), L[k] ∈ ls ∧ L[k] ∉ L.take k)
end Go.Proofs.Ytcgnehacihjnkaa

/-
  Plain lists: labels without some, without doubles. No condition.
-/
namespace Go.Proofs.Ytcgnehacihjnkaa
open Go.RowKit Go.Lift Plain
set_option linter.unusedSimpArgs false
set_option linter.unusedVariables false

/-- The labels of a list without those of another. -/
def wol (ls L : List Int) : List Int := ls.filter fun x => !has L x
set_option maxRecDepth 100000
end Go.Proofs.Ytcgnehacihjnkaa

/-
  Plain lists of label lists: buckets, elimination. No condition.
-/
namespace Go.Proofs.Ytcgnehacihjnkaa
open Go.RowKit Go.Lift Plain
set_option linter.unusedSimpArgs false
set_option linter.unusedVariables false

theorem nodup_sub_len : ∀ {l M : List Int}, l.Nodup → (∀ x ∈ l, x ∈ M) → l.length ≤ M.length
  | [], _, _, _ => Nat.zero_le _
  | x :: l, M, h, hs => by
    rw [List.nodup_cons] at h
    have hx := hs x (List.mem_cons_self ..)
    have h1 := nodup_sub_len (l := l) (M := M.erase x) h.2 fun y hy => (List.mem_erase_of_ne (fun e => h.1 (by rwa [← e]))).2 (hs y (List.mem_cons_of_mem _ hy))
    have h2 := List.length_erase_of_mem hx
    have h3 := List.length_pos_of_mem hx
    simp only [List.length_cons]
    omega
theorem nodup_len {l : List Int} (h : l.Nodup) (hb : ∀ x ∈ l, 0 ≤ x ∧ x ≤ 99) : l.length ≤ 100 := by
  have h1 := nodup_sub_len (M := (List.range 100).map fun (i : Nat) => (i : Int)) h fun x hx => by
    have := hb x hx
    exact List.mem_map.2 ⟨x.toNat, by simp; omega, by omega⟩
  simpa using h1
theorem joinL_nodup {a b : List Int} (ha : a.Nodup) (hb : b.Nodup) : (joinL a b).Nodup := by
  unfold joinL
  refine List.nodup_append.2 ⟨ha, hb.filter _, fun x hx y hy e => ?_⟩
  subst e
  simp only [List.mem_filter, Bool.not_eq_true', has_false] at hy
  exact hy.2 hx
section
variable {L : List (List Int)} {x : Int} {k : Nat}
end
end Go.Proofs.Ytcgnehacihjnkaa
