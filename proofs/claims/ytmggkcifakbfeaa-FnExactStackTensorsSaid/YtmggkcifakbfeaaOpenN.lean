/-
  Networks among the arguments, opened as plain data. No condition.
-/
import Derived.Test.YtmggkcifakbfeaaNetB
namespace Go.Proofs.Ytmggkcifakbfeaa
open Go.RowKit Go.Lift Go.ChangeShapes Go.WideShapes Plain
set_option maxRecDepth 100000

theorem hasD_int {d : D} (h : HasD d .int) : ∃ n, d = .int n ∧ I64 n := by
  cases d <;> simp only [HasD] at h
  exact ⟨_, rfl, h⟩
theorem hasDL_ints : ∀ {l : List D} {j : Nat}, HasDL l j [.int] → ∃ xs : List Int, l = dv xs ∧ ∀ x ∈ xs, I64 x
  | [], _, _ => ⟨[], rfl, by simp⟩
  | x :: l, j, h => by
    simp only [HasDL, List.length_cons, List.length_nil, Nat.zero_add, Nat.mod_one, List.getD_cons_zero] at h
    obtain ⟨n, rfl, hn⟩ := hasD_int h.1
    obtain ⟨xs, rfl, hx⟩ := hasDL_ints h.2
    exact ⟨n :: xs, rfl, by simpa using ⟨hn, hx⟩⟩
theorem hasD_ints {d : D} (h : HasD d (.sl [.int])) : ∃ xs : List Int, d = ints xs ∧ Sz 9223372036854775807 xs := by
  cases d <;> simp only [HasD] at h
  obtain ⟨h1, h2, h3⟩ := h
  obtain ⟨xs, rfl, hx⟩ := hasDL_ints h3
  simp only [dv, List.length_map, List.length_cons, List.length_nil, Nat.zero_add, Nat.mul_one] at h2
  subst h2
  exact ⟨xs, rfl, h1, hx⟩
theorem hasDL_tens : ∀ {n : Nat} {l : List D} {j : Nat}, j % 3 = 0 → l.length = n * 3 → HasDL l j [.sl [.int], .sl [.int], .sl [.int]] → ∃ ts : List Ten, l = tcs ts ∧ ts.length = n ∧ ∀ t ∈ ts, TSz 9223372036854775807 t
  | 0, l, _, _, hl, _ => by
    obtain rfl := List.eq_nil_of_length_eq_zero (by simpa using hl)
    exact ⟨[], rfl, rfl, by simp⟩
  | n + 1, l, j, hj, hl, h => by
    match l, hl with
    | x :: y :: z :: l, hl =>
      simp only [HasDL, List.length_cons, List.length_nil] at h
      obtain ⟨h0, h1, h2, h3⟩ := h
      rw [show j % (0 + 1 + 1 + 1) = 0 by simpa using hj] at h0
      rw [show (j + 1) % (0 + 1 + 1 + 1) = 1 by simp; omega] at h1
      rw [show (j + 1 + 1) % (0 + 1 + 1 + 1) = 2 by simp; omega] at h2
      obtain ⟨a, rfl, ha⟩ := hasD_ints (by simpa using h0)
      obtain ⟨b, rfl, hb⟩ := hasD_ints (by simpa using h1)
      obtain ⟨c, rfl, hc⟩ := hasD_ints (by simpa using h2)
      obtain ⟨ts, rfl, ht, hs⟩ := hasDL_tens (n := n) (j := j + 1 + 1 + 1) (by omega) (by simp at hl; omega) h3
      refine ⟨⟨a, b, c⟩ :: ts, rfl, by simp [ht], fun t hm => ?_⟩
      rcases List.mem_cons.1 hm with rfl | hm
      · exact ⟨ha, hb, hc⟩
      · exact hs t hm
    | [], hl => simp at hl
    | [_], hl => simp at hl; omega
    | [_, _], hl => simp at hl; omega
theorem hasD_tens {d : D} (h : HasD d (.sl [.sl [.int], .sl [.int], .sl [.int]])) : ∃ ts : List Ten, d = tens ts ∧ ts.length ≤ 9223372036854775807 ∧ ∀ t ∈ ts, TSz 9223372036854775807 t := by
  cases d <;> simp only [HasD] at h
  obtain ⟨h1, h2, h3⟩ := h
  obtain ⟨ts, rfl, ht, hs⟩ := hasDL_tens (by omega) (by simpa using h2) h3
  subst ht
  exact ⟨ts, rfl, h1, hs⟩
structure NetIn (w : World) (v : Value) (N : Net) : Prop where
  rel : Rel w (topL w) id (at_ []) (netA N) v
  sz : NSz 9223372036854775807 N
section
variable {H : Type} {enc : TypeId × Value → H} {w : World} {base : Nat} {held : Bool} {r : Reach}
end
end Go.Proofs.Ytmggkcifakbfeaa
