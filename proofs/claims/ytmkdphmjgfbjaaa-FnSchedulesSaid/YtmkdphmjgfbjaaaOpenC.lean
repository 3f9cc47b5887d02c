/-
 Codes (slices of bytes) among the arguments, opened as plain data. No condition.
-/
import Derived.Test.YtmkdphmjgfbjaaaNetB
import Derived.Test.YtmkdphmjgfbjaaaGenA
namespace Go.Proofs.Ytmkdphmjgfbjaaa
open Go.RowKit Go.Lift Go.ChangeShapes Go.WideShapes Plain
set_option maxRecDepth 100000
theorem hasD_byte {d : D} (h : HasD d .byte) : ∃ n, d = .byte n ∧ 0 ≤ n ∧ n ≤ 255 := by
 cases d <;> simp only [HasD] at h
 exact ⟨_, rfl, h⟩
theorem hasDL_bytes : ∀ {l : List D} {j : Nat}, HasDL l j [.byte] → ∃ xs : List Int, l = dby xs ∧ ∀ x ∈ xs, 0 ≤ x ∧ x ≤ 255
 | [], _, _ => ⟨[], rfl, by simp⟩
 | x :: l, j, h => by
  simp only [HasDL, List.length_cons, List.length_nil, Nat.zero_add, Nat.mod_one, List.getD_cons_zero] at h
  obtain ⟨n, rfl, hn⟩ := hasD_byte h.1
  obtain ⟨xs, rfl, hx⟩ := hasDL_bytes h.2
  exact ⟨n :: xs, rfl, by simpa using ⟨hn, hx⟩⟩
theorem hasD_bytes {d : D} (h : HasD d (.sl [.byte])) : ∃ xs : List Int, d = bytes xs ∧ xs.length ≤ 9223372036854775807 ∧ ∀ x ∈ xs, 0 ≤ x ∧ x ≤ 255 := by
 cases d <;> simp only [HasD] at h
 obtain ⟨h1, h2, h3⟩ := h
 obtain ⟨xs, rfl, hx⟩ := hasDL_bytes h3
 simp only [dby, List.length_map, List.length_cons, List.length_nil, Nat.zero_add, Nat.mul_one] at h2
 subst h2
 exact ⟨xs, rfl, h1, hx⟩
structure BytIn (w : World) (v : Value) (b : List Int) : Prop where
 rel : Rel w (topL w) id (at_ []) (.d (bytes b)) v
 len : b.length ≤ 9223372036854775807
 wf : ∀ x ∈ b, 0 ≤ x ∧ x ≤ 255
section
variable {H : Type} {enc : TypeId × Value → H} {w : World} {base : Nat} {held : Bool} {r : Reach}
theorem open_bytes {b0 : Nat} {v : Value} {d : DataW H} {p : List MemPlace} (hv : Value.okWide Try.prog w r b0 22 v) (h : DataW.Trod enc Try.prog w base (fun _ => true) held 22 v d p) :
  ∃ b, BytIn w v b := by
 obtain ⟨A, n, c, rfl⟩ := okWide_slice Try.underlying22 hv
 obtain ⟨fuel, hf⟩ := h
 obtain ⟨ds, hR⟩ := reads_of 5 22 [.sl [.byte]] (by kernel_rfl) fuel [.slice A n c] _ hf (by kernel_rfl)
 obtain ⟨h1, h2, h3⟩ := hR
 match ds, h1 with
 | [d0], _ =>
  obtain ⟨d', e1, e2, e3⟩ := h3 0 _ (.sl [.byte]) rfl rfl
  simp only [List.getElem?_cons_zero, Option.some.injEq] at e1
  subst e1
  obtain ⟨b, rfl, hl, hs⟩ := hasD_bytes e3
  exact ⟨b, by rw [Rel]; exact e2, hl, hs⟩
end
end Go.Proofs.Ytmkdphmjgfbjaaa
