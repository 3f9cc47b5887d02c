/-
  Lists of steps among the arguments, opened as plain data. No condition.
-/
import Derived.Test.YtcgnehacihjnkaaOpenN
import Derived.Test.YtcgnehacihjnkaaStp
namespace Go.Proofs.Ytcgnehacihjnkaa
open Go.RowKit Go.Lift Go.ChangeShapes Go.WideShapes Plain
set_option maxRecDepth 100000

theorem getD_int2 : ∀ i : Nat, ([.int, .int] : List Sh).getD i .int = .int
  | 0 => rfl
  | 1 => rfl
  | _ + 2 => rfl
theorem hasDL_int2 : ∀ {l : List D} {j : Nat}, HasDL l j [.int, .int] → ∃ xs : List Int, l = dv xs ∧ ∀ x ∈ xs, I64 x
  | [], _, _ => ⟨[], rfl, by simp⟩
  | x :: l, j, h => by
    simp only [HasDL, getD_int2] at h
    obtain ⟨n, rfl, hn⟩ := hasD_int h.1
    obtain ⟨xs, rfl, hx⟩ := hasDL_int2 h.2
    exact ⟨n :: xs, rfl, by simpa using ⟨hn, hx⟩⟩
theorem hasD_stp {d : D} (h : HasD d (.sl [.int, .int])) : ∃ (n : Nat) (F : List Int), d = stp n F ∧ StpSz 9223372036854775807 n F := by
  cases d <;> simp only [HasD] at h
  obtain ⟨h1, h2, h3⟩ := h
  obtain ⟨xs, rfl, hx⟩ := hasDL_int2 h3
  exact ⟨_, xs, rfl, by simpa [dv] using h2, h1, hx⟩
/-- An argument reads as a list of steps. -/
structure StpIn (w : World) (v : Value) (n : Nat) (F : List Int) : Prop where
  rel : Rel w (topL w) id (at_ []) (.d (stp n F)) v
  sz : StpSz 9223372036854775807 n F
section
variable {H : Type} {enc : TypeId × Value → H} {w : World} {base : Nat} {held : Bool} {r : Reach}
theorem open_steps {b0 : Nat} {v : Value} {d : DataW H} {p : List MemPlace} (hv : Value.okWide Try.prog w r b0 68 v) (h : DataW.Trod enc Try.prog w base (fun _ => true) held 68 v d p) :
    ∃ n F, StpIn w v n F := by
  obtain ⟨A, n, c, rfl⟩ := okWide_slice Try.underlying68 hv
  obtain ⟨fuel, hf⟩ := h
  obtain ⟨ds, hR⟩ := reads_of 5 68 [.sl [.int, .int]] (by kernel_rfl) fuel [.slice A n c] _ hf (by kernel_rfl)
  obtain ⟨h1, h2, h3⟩ := hR
  match ds, h1 with
  | [d0], _ =>
    obtain ⟨d', e1, e2, e3⟩ := h3 0 _ (.sl [.int, .int]) rfl rfl
    simp only [List.getElem?_cons_zero, Option.some.injEq] at e1
    subst e1
    obtain ⟨n', F, rfl, hs⟩ := hasD_stp e3
    exact ⟨n', F, by rw [Rel]; exact e2, hs⟩
end
end Go.Proofs.Ytcgnehacihjnkaa
