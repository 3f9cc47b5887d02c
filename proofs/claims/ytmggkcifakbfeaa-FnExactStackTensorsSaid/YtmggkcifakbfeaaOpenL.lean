/-
  Lists of tensors among the arguments, opened as plain data. No condition.
-/
import Derived.Test.YtmggkcifakbfeaaOpenN
namespace Go.Proofs.Ytmggkcifakbfeaa
open Go.RowKit Go.Lift Go.ChangeShapes Go.WideShapes Plain
set_option maxRecDepth 100000

structure TsSz (B : Nat) (ts : List Ten) : Prop where
  l : ts.length ≤ B
  t : ∀ t ∈ ts, TSz B t
structure TsIn (w : World) (v : Value) (ts : List Ten) : Prop where
  rel : Rel w (topL w) id (at_ []) (.d (tens ts)) v
  sz : TsSz 9223372036854775807 ts
section
variable {H : Type} {enc : TypeId × Value → H} {w : World} {base : Nat} {held : Bool} {r : Reach}
theorem open_tensors {b0 : Nat} {v : Value} {d : DataW H} {p : List MemPlace} (hv : Value.okWide Try.prog w r b0 24 v) (h : DataW.Trod enc Try.prog w base (fun _ => true) held 24 v d p) :
    ∃ ts, TsIn w v ts := by
  obtain ⟨A, n, c, rfl⟩ := okWide_slice Try.underlying24 hv
  obtain ⟨fuel, hf⟩ := h
  obtain ⟨ds, hR⟩ := reads_of 5 24 [.sl [.sl [.int], .sl [.int], .sl [.int]]] (by kernel_rfl) fuel [.slice A n c] _ hf (by kernel_rfl)
  obtain ⟨h1, h2, h3⟩ := hR
  match ds, h1 with
  | [d0], _ =>
    obtain ⟨d', e1, e2, e3⟩ := h3 0 _ (.sl [.sl [.int], .sl [.int], .sl [.int]]) rfl rfl
    simp only [List.getElem?_cons_zero, Option.some.injEq] at e1
    subst e1
    obtain ⟨ts, rfl, hl, ht⟩ := hasD_tens e3
    exact ⟨ts, by rw [Rel]; exact e2, hl, ht⟩
end
theorem szTs_go {ts : List Ten} {left : Int} (h : TsSz 9223372036854775807 ts) (hl : left ≤ 1048576) (hs : ¬ szTs ts left < 0) : TsSz 1048576 ts ∧ (ts.length + totT ts : Int) ≤ left ∧ szTs ts left = left - (ts.length + totT ts) := by
  have hs' := hs
  unfold szTs at hs'
  have hb : (ts.length + totT ts : Int) ≤ left := by split at hs' <;> omega
  refine ⟨⟨by omega, fun t ht => ?_⟩, hb, by unfold szTs; rw [if_neg (by omega)]⟩
  have h1 := totT_mem ht
  unfold lenT at h1
  have h2 := h.t t ht
  exact ⟨⟨by omega, h2.l.wf⟩, ⟨by omega, h2.d.wf⟩, ⟨by omega, h2.x.wf⟩⟩
end Go.Proofs.Ytmggkcifakbfeaa
