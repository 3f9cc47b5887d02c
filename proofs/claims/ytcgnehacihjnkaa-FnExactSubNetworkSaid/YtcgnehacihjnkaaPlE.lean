/-
  Plain lists of label lists: buckets, elimination. No condition.
-/
import Derived.Test.YtcgnehacihjnkaaPlB0
namespace Go.Proofs.Ytcgnehacihjnkaa
open Go.RowKit Go.Lift Plain
set_option linter.unusedSimpArgs false
set_option linter.unusedVariables false

/-- Lists of labels, without doubles. -/
theorem nodup_sub_len : ∀ {l M : List Int}, l.Nodup → (∀ x ∈ l, x ∈ M) → l.length ≤ M.length
  | [], _, _, _ => Nat.zero_le _
  | x :: l, M, h, hs => by
    rw [List.nodup_cons] at h
    have hx := hs x (List.mem_cons_self ..)
    have h1 := nodup_sub_len (l := l) (M := M.erase x) h.2 fun y hy => (List.mem_erase_of_ne (fun e => h.1 (by rwa [← e]))).2 (hs y (List.mem_cons_of_mem _ hy))
    have h2 := List.length_erase_of_mem hx
    have h3 := List.length_pos_of_mem hx
    simp only [List.length_cons]
    omega
section
variable {L : List (List Int)} {x : Int} {k : Nat}
end
end Go.Proofs.Ytcgnehacihjnkaa
