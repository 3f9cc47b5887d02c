/-
 LIFT, part 28: slices of ints, tensors and rings as data; the contracts of the hand-made walks as contracts on data. No condition.
-/
import Derived.Test.YtmkdphmjgfbjaaaLiftF
import Derived.Test.YtmkdphmjgfbjaaaHandA
namespace Go.Proofs.Ytmkdphmjgfbjaaa
open Go.RowKit Go.Lift
def topL (w : World) : Labels := fun b => if b < w.heap.size then .im else .off
def ringA (k p n : Int) : AV := .agg [.d (.int k), .d (.int p), .d (.int n)]
def tenA (t : Ten) : AV := .agg [.d (ints t.labels), .d (ints t.dims), .d (ints t.data)]
def ownT (k : Nat) (t : Ten) : AV := .agg [.own k 0 t.labels.length, .own (k + 1) 0 t.dims.length, .own (k + 2) 0 t.data.length]
def stoF (t : Ten) : Sto := [some ⟨1, false, iv t.labels⟩, some ⟨1, false, iv t.dims⟩, some ⟨1, false, iv t.data⟩]
def stoT (t : Ten) : Sto := [some ⟨1, true, iv t.labels⟩, some ⟨1, true, iv t.dims⟩, some ⟨1, true, iv t.data⟩]
section
variable {w : World} {γ : Labels} {φ : Nat → Nat} {s : St} {I : Nat → Prop} {xs : List Int}
end
structure Sz (m : Nat) (xs : List Int) : Prop where
 len : xs.length ≤ m
 wf : ∀ x ∈ xs, I64 x
structure TSz (m : Nat) (t : Ten) : Prop where
 l : Sz m t.labels
 d : Sz m t.dims
 x : Sz m t.data
section
variable {w : World} {γ : Labels} {φ : Nat → Nat} {s : St} {m : Nat} {xs : List Int} {t : Ten}
theorem rel_int {v : Value} {x : Int} (h : Rel w γ φ s (.d (.int x)) v) : v = .int .i64 x := by simpa only [Rel, Rd] using h
end
def markL (xs : List Int) (k : Int) : List Int := (List.range xs.length).map fun (i : Nat) => k + (i : Int)
def markT (t : Ten) (m : Int) : Ten := ⟨markL t.labels m, markL t.dims (m + t.labels.length), markL t.data (m + t.labels.length + t.dims.length)⟩
theorem SlIn.size {w : World} {A : Option Addr} {n c : Nat} {xs : List Int} (h : SlIn w A n c xs) : Sz 9223372036854775807 xs := ⟨by rw [h.1.1]; exact h.2, h.4⟩
attribute [go_sem] ownT stoT stoF tenA ringA markT
end Go.Proofs.Ytmkdphmjgfbjaaa
