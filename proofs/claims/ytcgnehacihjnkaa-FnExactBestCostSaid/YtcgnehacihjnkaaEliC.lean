/-
  Contracts: orders of least degree. No condition.
-/
import Derived.Test.YtcgnehacihjnkaaEliB
namespace Go.Proofs.Ytcgnehacihjnkaa
open Go.RowKit Go.Lift Plain
set_option linter.unusedSimpArgs false
set_option linter.unusedVariables false
set_option maxRecDepth 100000

section
variable {L : List (List Int)} {left : List Int} {k : Nat}
end
structure MD where
  left : List Int
  ls : List (List Int)
  ord : List Int
structure MdOk (left0 : List Int) (L0 : List (List Int)) (k : Nat) (s : MD) : Prop where
  len : s.left.length + k = left0.length
  nd : s.left.Nodup
  sub : ∀ x ∈ s.left, x ∈ left0
  ok : LOk s.ls
  ll : s.ls.length ≤ L0.length + k
  ol : s.ord.length = k
  om : ∀ x ∈ s.ord, x ∈ left0
theorem pickTo_nodup (p : Nat → Bool) (n : Nat) : (pickTo p n).Nodup := by
  unfold pickTo
  have h1 : ((List.range n).filter p).Nodup := List.nodup_range.filter _
  generalize (List.range n).filter p = l at h1
  induction l with
  | nil => simp
  | cons x l ih =>
    rw [List.nodup_cons] at h1
    rw [List.map_cons, List.nodup_cons]
    refine ⟨fun hm => ?_, ih h1.2⟩
    obtain ⟨y, hy, e⟩ := List.mem_map.1 hm
    exact h1.1 (by rwa [show x = y by omega])
end Go.Proofs.Ytcgnehacihjnkaa
