/-
  Decompositions among the arguments, opened as plain data. No condition.
-/
import Derived.Test.YtcgnehacihjnkaaOpenN
import Derived.Test.YtcgnehacihjnkaaPlD
namespace Go.Proofs.Ytcgnehacihjnkaa
open Go.RowKit Go.Lift Go.ChangeShapes Go.WideShapes Plain
set_option maxRecDepth 100000

theorem hasDL_lists : ∀ {l : List D} {j : Nat}, HasDL l j [.sl [.int]] → ∃ L : List (List Int), l = ldv L ∧ ∀ b ∈ L, Sz 9223372036854775807 b
  | [], _, _ => ⟨[], rfl, by simp⟩
  | x :: l, j, h => by
    simp only [HasDL, List.length_cons, List.length_nil, Nat.zero_add, Nat.mod_one, List.getD_cons_zero] at h
    obtain ⟨b, rfl, hb⟩ := hasD_ints h.1
    obtain ⟨L, rfl, hL⟩ := hasDL_lists h.2
    exact ⟨b :: L, rfl, by simpa using ⟨hb, hL⟩⟩
theorem hasD_lists {d : D} (h : HasD d (.sl [.sl [.int]])) : ∃ L : List (List Int), d = lists L ∧ L.length ≤ 9223372036854775807 ∧ ∀ b ∈ L, Sz 9223372036854775807 b := by
  cases d <;> simp only [HasD] at h
  obtain ⟨h1, h2, h3⟩ := h
  obtain ⟨L, rfl, hL⟩ := hasDL_lists h3
  simp only [ldv, List.length_map, List.length_cons, List.length_nil, Nat.zero_add, Nat.mul_one] at h2
  subst h2
  exact ⟨L, rfl, h1, hL⟩
/-- An argument reads as a decomposition. -/
structure DecIn (w : World) (v : Value) (B : List (List Int)) (P : List Int) : Prop where
  rel : Rel w (topL w) id (at_ []) (decA B P) v
  sz : DSz 9223372036854775807 B P
section
variable {H : Type} {enc : TypeId × Value → H} {w : World} {base : Nat} {held : Bool} {r : Reach}
theorem open_decomposition {b0 : Nat} {v : Value} {d : DataW H} {p : List MemPlace} (hv : Value.okWide Try.prog w r b0 59 v) (h : DataW.Trod enc Try.prog w base (fun _ => true) held 59 v d p) :
    ∃ B P, DecIn w v B P := by
  obtain ⟨cs, rfl, hsz⟩ := okWide_struct Try.underlying59 hv
  obtain ⟨fuel, hf⟩ := h
  obtain ⟨ds, hR⟩ := reads_of 5 59 [.sl [.sl [.int]], .sl [.int]] (by kernel_rfl) fuel cs.toList _ (by simpa [Value.cells] using hf) (by kernel_rfl)
  have hrel := reads_rel hR
  obtain ⟨h1, h2, h3⟩ := hR
  have hl : ds.length = 2 := by rw [h1, ← h2]; rfl
  match ds, hl with
  | [d0, d1], _ =>
    have get : ∀ (i : Nat) (x : D) (s : Sh), [d0, d1][i]? = some x → ([.sl [.sl [.int]], .sl [.int]] : List Sh)[i]? = some s → HasD x s := fun i x s hx hs => by
      have hi : i < cs.toList.length := by rw [← h2]; exact (List.getElem?_eq_some_iff.1 hs).1
      obtain ⟨d', e1, _, e3⟩ := h3 i _ s (List.getElem?_eq_getElem hi) hs
      rw [hx] at e1
      simp only [Option.some.injEq] at e1
      subst e1
      exact e3
    obtain ⟨B, rfl, hbl, hb⟩ := hasD_lists (get 0 _ _ rfl rfl)
    obtain ⟨P, rfl, hp⟩ := hasD_ints (get 1 _ _ rfl rfl)
    exact ⟨B, P, hrel, ⟨hbl, hb, hp⟩⟩
end
end Go.Proofs.Ytcgnehacihjnkaa
