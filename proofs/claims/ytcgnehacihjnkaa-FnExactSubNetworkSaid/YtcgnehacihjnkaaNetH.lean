/-
  Contracts: networks scaled, without units (by the reference), joined. No condition.
-/
import Derived.Test.YtcgnehacihjnkaaNetG
namespace Go.Proofs.Ytcgnehacihjnkaa
open Go.RowKit Go.Lift Plain
set_option linter.unusedSimpArgs false
set_option linter.unusedVariables false
set_option maxRecDepth 100000

section
variable {A B : List AV} {q : Nat} {x y z : AV}
end
theorem totT_le : ∀ {ts : List Ten} {n : Nat}, ts.length ≤ n → (∀ t ∈ ts, TSz 1048576 t) → totT ts ≤ n * 3145728
  | [], n, _, _ => by simp [totT]
  | t :: l, n + 1, h, ht => by
    have h1 := totT_le (ts := l) (n := n) (by simpa using h) (fun u hu => ht u (List.mem_cons_of_mem _ hu))
    have h2 := ht t (List.mem_cons_self ..)
    have a := h2.l.len
    have b := h2.d.len
    have c := h2.x.len
    simp only [totT, lenT]
    omega
theorem markTs_take {ts : List Ten} {m : Int} : (tcA (markTs ts m)).take (ts.length * 3) = tcA (markTs ts m) := List.take_of_length_le (by rw [tcA_len, markTs_len]; exact Nat.le_refl _)
attribute [go_sem] markTs_take
end Go.Proofs.Ytcgnehacihjnkaa
