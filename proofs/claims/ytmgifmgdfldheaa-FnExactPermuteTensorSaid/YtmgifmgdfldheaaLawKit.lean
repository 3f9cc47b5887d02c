/-
  What a law's proof carries from statement to statement: steps that leave old memory alone, arguments, variables that hold copies and results. No condition.
-/
import Derived.Test.YtmgifmgdfldheaaLawB
import Derived.Test.YtmgifmgdfldheaaOpen
import Derived.Deep.RegionHeld3
import Derived.Deep.DeepCutAuto
namespace Go.Proofs.Ytmgifmgdfldheaa
open Go.RowKit

/-- Nothing that was there has turned. -/
def Step (W W' : World) : Prop := Below W.heap.size W W'
section
variable {w W W' W'' : World} {B lo hi n c : Nat} {A : Option Addr} {xs : List Int}
theorem Step.alloc (W : World) (o : Obj) : Step W (W.alloc o) := (Below.refl _ _).alloc (Nat.le_refl _) _
theorem Step.drew (W : World) : Step W W.drew := (Below.refl _ _).drew
theorem Step.trans (h : Step W W') (h' : Step W' W'') : Step W W'' := Below.trans h (Below.mono h' (Below.size h))
theorem Step.size (h : Step W W') : W.heap.size ≤ W'.heap.size := Below.size h
theorem cell_step {a : Addr} {v : Value} (st : Step W W') (m : W.cell? a = some v) : W'.cell? a = some v := (Below.cell st (World.block_lt_of_cell? W a m)).trans m
theorem IntsAt.step (st : Step W W') (h : IntsAt W B A n xs) : IntsAt W' B A n xs :=
  ⟨h.1, fun hn => by
    obtain ⟨b, off, e, hlt, hc⟩ := h.2 hn
    exact ⟨b, off, e, hlt, fun j hj => cell_step st (hc j hj)⟩⟩
theorem IntsAt.top (h : IntsAt W B A n xs) : IntsAt W W.heap.size A n xs :=
  ⟨h.1, fun hn => by
    obtain ⟨b, off, e, hlt, hc⟩ := h.2 hn
    exact ⟨b, off, e, World.block_lt_of_cell? W _ (hc 0 hn), hc⟩⟩
theorem OwnI.step (st : Step W W') (h : OwnI W lo hi A n c xs) : OwnI W' lo hi A n c xs := h.old st
theorem Below.step (st : Step W W') (h : Below w.heap.size w W) : Below w.heap.size w W' := h.trans (Below.mono st h.size)
variable {n0 c0 n1 c1 n2 c2 : Nat} {A0 A1 A2 : Option Addr} {t : Ten}
theorem TenAt.step (st : Step W W') (h : TenAt W B A0 n0 A1 n1 A2 n2 t) : TenAt W' B A0 n0 A1 n1 A2 n2 t := ⟨h.l.step st, h.d.step st, h.x.step st⟩
theorem TenAt.top (h : TenAt W B A0 n0 A1 n1 A2 n2 t) : TenAt W W.heap.size A0 n0 A1 n1 A2 n2 t := ⟨h.l.top, h.d.top, h.x.top⟩
theorem OwnT.step (st : Step W W') (h : OwnT W lo hi A0 n0 c0 A1 n1 c1 A2 n2 c2 t) : OwnT W' lo hi A0 n0 c0 A1 n1 c1 A2 n2 c2 t := h.old st
end

/-! ### What a contract is given: a slice, a tensor that may be read -/

/-- A slice of ints that may be read. -/
structure SlOk (W : World) (A : Option Addr) (n c : Nat) (xs : List Int) : Prop where
  at_ : IntsAt W W.heap.size A n xs
  len : n ≤ 1099511627776
  cap : n ≤ c
  wf : ∀ x ∈ xs, I64 x
structure TnOk (W : World) (A0 : Option Addr) (n0 c0 : Nat) (A1 : Option Addr) (n1 c1 : Nat) (A2 : Option Addr) (n2 c2 : Nat) (t : Ten) : Prop where
  l : SlOk W A0 n0 c0 t.labels
  d : SlOk W A1 n1 c1 t.dims
  x : SlOk W A2 n2 c2 t.data
section
variable {w W W' : World} {lo hi n c : Nat} {A : Option Addr} {xs : List Int} {n0 c0 n1 c1 n2 c2 : Nat} {A0 A1 A2 : Option Addr} {t : Ten}
theorem SlOk.step (st : Step W W') (h : SlOk W A n c xs) : SlOk W' A n c xs := ⟨(h.at_.step st).mono st.size, h.len, h.cap, h.wf⟩
theorem TnOk.step (st : Step W W') (h : TnOk W A0 n0 c0 A1 n1 c1 A2 n2 c2 t) : TnOk W' A0 n0 c0 A1 n1 c1 A2 n2 c2 t := ⟨h.l.step st, h.d.step st, h.x.step st⟩
theorem OwnI.ok (h : OwnI W lo hi A n c xs) (hn : n ≤ 1099511627776) (hw : ∀ x ∈ xs, I64 x) : SlOk W A n c xs := ⟨h.ints.top, hn, h.cap, hw⟩
end

/-! ### Sizes and ranges of what came in -/

structure SlSz (n : Nat) (xs : List Int) : Prop where
  len : xs.length ≤ n
  wf : ∀ x ∈ xs, I64 x
structure TnSz (n : Nat) (t : Ten) : Prop where
  l : SlSz n t.labels
  d : SlSz n t.dims
  x : SlSz n t.data
section
variable {w W W' : World} {lo hi n c m : Nat} {A : Option Addr} {xs : List Int} {n0 c0 n1 c1 n2 c2 : Nat} {A0 A1 A2 : Option Addr} {t : Ten}
theorem SlIn.sz (h : SlIn w A n c xs) (hn : n ≤ m) : SlSz m xs := ⟨by rw [h.at_.len]; exact hn, h.wf⟩
theorem TnIn.sz (h : TnIn w A0 n0 c0 A1 n1 c1 A2 n2 c2 t) (h0 : n0 ≤ m) (h1 : n1 ≤ m) (h2 : n2 ≤ m) : TnSz m t := ⟨h.l.sz h0, h.d.sz h1, h.x.sz h2⟩
theorem OwnI.okz (h : OwnI W lo hi A n c xs) (hs : SlSz m xs) (hm : m ≤ 1099511627776) : SlOk W A n c xs := ⟨h.ints.top, by have := hs.len; have := h.len; omega, h.cap, hs.wf⟩
theorem OwnT.okz (h : OwnT W lo hi A0 n0 c0 A1 n1 c1 A2 n2 c2 t) (hs : TnSz m t) (hm : m ≤ 1099511627776) : TnOk W A0 n0 c0 A1 n1 c1 A2 n2 c2 t := ⟨h.l.okz hs.l hm, h.d.okz hs.d hm, h.x.okz hs.x hm⟩
end

/-! ### Behind a mark -/
section
variable {w W W' : World} {S : Nat → Prop} {lo hi lo' hi' n c B : Nat} {A : Option Addr} {xs : List Int} {n0 c0 n1 c1 n2 c2 : Nat} {A0 A1 A2 : Option Addr} {t : Ten}
theorem cell_only {b o : Nat} {v : Value} (ho : Only S W W') (hS : ∀ k, S k → lo ≤ k ∧ k < hi) (hb : b < lo ∨ hi ≤ b) (m : W.cell? ⟨b, o, none⟩ = some v) : W'.cell? ⟨b, o, none⟩ = some v :=
  ((ho.cells (b := b) (World.block_lt_of_cell? W _ m) (fun x => by have := hS b x; omega)).1 o).trans m
theorem IntsAt.apart (ho : Only S W W') (hS : ∀ k, S k → lo ≤ k ∧ k < hi) (hB : B ≤ lo) (_hW : B ≤ W.heap.size) (h : IntsAt W B A n xs) : IntsAt W' B A n xs :=
  ⟨h.1, fun h0 => by
    obtain ⟨b, off, e, hlt, hc⟩ := h.2 h0
    exact ⟨b, off, e, hlt, fun j hj => cell_only ho hS (.inl (by omega)) (hc j hj)⟩⟩
theorem TenAt.apart (ho : Only S W W') (hS : ∀ k, S k → lo ≤ k ∧ k < hi) (hB : B ≤ lo) (hW : B ≤ W.heap.size) (h : TenAt W B A0 n0 A1 n1 A2 n2 t) : TenAt W' B A0 n0 A1 n1 A2 n2 t :=
  ⟨h.l.apart ho hS hB hW, h.d.apart ho hS hB hW, h.x.apart ho hS hB hW⟩
theorem OwnI.away (ho : Only S W W') (hS : ∀ k, S k → lo ≤ k ∧ k < hi) (hd : hi' ≤ lo ∨ hi ≤ lo') (h : OwnI W lo' hi' A n c xs) : OwnI W' lo' hi' A n c xs :=
  h.only ho (fun a e x => by have := hS _ x; have := h.lt a e; omega)
theorem OwnT.away (ho : Only S W W') (hS : ∀ k, S k → lo ≤ k ∧ k < hi) (hd : hi' ≤ lo ∨ hi ≤ lo') (h : OwnT W lo' hi' A0 n0 c0 A1 n1 c1 A2 n2 c2 t) : OwnT W' lo' hi' A0 n0 c0 A1 n1 c1 A2 n2 c2 t :=
  ⟨h.l.away ho hS hd, h.d.away ho hS hd, h.x.away ho hS hd, h.ld, h.lx, h.dx⟩
theorem Below.away (ho : Only S W W') (hS : ∀ k, S k → lo ≤ k ∧ k < hi) (hB : w.heap.size ≤ lo) (h : Below w.heap.size w W) : Below w.heap.size w W' := h.trans (ho.below h.size (fun k x => by have := hS k x; omega))
theorem OwnT.blks (h : OwnT W lo hi A0 n0 c0 A1 n1 c1 A2 n2 c2 t) : ∀ k, inT A0 A1 A2 k → lo ≤ k ∧ k < hi := fun _ hk => ⟨(h.inT_lt hk).1, (h.inT_lt hk).2.1⟩
theorem OwnI.blks (h : OwnI W lo hi A n c xs) : ∀ k, some k = blkOf A → lo ≤ k ∧ k < hi := by
  intro k hk
  rcases A with _ | a
  · simp [blkOf] at hk
  · have := h.lt a rfl; simp [blkOf] at hk; omega
end

/-! ### A variable that holds a tensor of the call's own -/

structure VarT (W0 W : World) (lo hi b : Nat) (A0 : Option Addr) (c0 : Nat) (A1 : Option Addr) (c1 : Nat) (A2 : Option Addr) (c2 : Nat) (t : Ten) : Prop where
  b0 : W.cell? ⟨b, 0, none⟩ = some (.slice A0 t.labels.length c0)
  b1 : W.cell? ⟨b, 1, none⟩ = some (.slice A1 t.dims.length c1)
  b2 : W.cell? ⟨b, 2, none⟩ = some (.slice A2 t.data.length c2)
  own : OwnT W lo hi A0 t.labels.length c0 A1 t.dims.length c1 A2 t.data.length c2 t
  st : Step W0 W
  lo0 : W0.heap.size ≤ lo
  lohi : lo ≤ hi
  hi1 : hi ≤ W.heap.size
  bl : W0.heap.size ≤ b
  bh : b < W.heap.size
  off : b < lo ∨ hi ≤ b
section
variable {W0 W : World} {lo hi b : Nat} {A0 : Option Addr} {c0 : Nat} {A1 : Option Addr} {c1 : Nat} {A2 : Option Addr} {c2 : Nat} {t : Ten}
/-- The variable's block is made last. -/
theorem VarT.last (T : TypeId) (own : OwnT W lo hi A0 t.labels.length c0 A1 t.dims.length c1 A2 t.data.length c2 t) (st : Step W0 W) (h1 : W0.heap.size ≤ lo) (h2 : lo ≤ hi) (h3 : hi ≤ W.heap.size) :
    VarT W0 (W.alloc (.cells #[.slice A0 t.labels.length c0, .slice A1 t.dims.length c1, .slice A2 t.data.length c2] T)) lo hi W.heap.size A0 c0 A1 c1 A2 c2 t := by
  have hs := st.size
  exact ⟨by simp, by simp, by simp, own.step (Step.alloc _ _), st.trans (Step.alloc _ _), h1, h2, by simp; omega, hs, by simp, .inr h3⟩
theorem Step.set {W W' : World} (st : Step W W') {b o : Nat} (hb : W.heap.size ≤ b) (v : Value) : Step W (W'.setCell ⟨b, o, none⟩ v) := Below.setCell st (p := ⟨b, o, none⟩) hb v
theorem cell_set_same {W : World} {b o : Nat} {v u : Value} (h : W.cell? ⟨b, o, none⟩ = some u) : (W.setCell ⟨b, o, none⟩ v).cell? ⟨b, o, none⟩ = some v := World.cell?_setCell_same W _ v h
theorem cell_set_other {W : World} {b o o' : Nat} {v u : Value} (h : W.cell? ⟨b, o, none⟩ = some u) (hne : o' ≠ o) : (W.setCell ⟨b, o', none⟩ v).cell? ⟨b, o, none⟩ = some u :=
  (World.cell?_setCell_other W _ _ v (fun e => hne (by injection e))).trans h
/-- The variable's block was made before the tensor. -/
theorem VarT.first {u0 u1 u2 : Value} (own : OwnT W lo hi A0 t.labels.length c0 A1 t.dims.length c1 A2 t.data.length c2 t) (st : Step W0 W) (h1 : W0.heap.size ≤ b) (h2 : b < lo) (h3 : lo ≤ hi) (h4 : hi ≤ W.heap.size)
    (q0 : W.cell? ⟨b, 0, none⟩ = some u0) (q1 : W.cell? ⟨b, 1, none⟩ = some u1) (q2 : W.cell? ⟨b, 2, none⟩ = some u2) :
    VarT W0 (((W.setCell ⟨b, 0, none⟩ (.slice A0 t.labels.length c0)).setCell ⟨b, 1, none⟩ (.slice A1 t.dims.length c1)).setCell ⟨b, 2, none⟩ (.slice A2 t.data.length c2)) lo hi b A0 c0 A1 c1 A2 c2 t := by
  have hs := st.size
  have hz : (((W.setCell ⟨b, 0, none⟩ (.slice A0 t.labels.length c0)).setCell ⟨b, 1, none⟩ (.slice A1 t.dims.length c1)).setCell ⟨b, 2, none⟩ (.slice A2 t.data.length c2)).heap.size = W.heap.size := by simp only [size_setCell]
  refine ⟨?_, ?_, ?_, ((own.far _ h2).far _ h2).far _ h2, ((st.set h1 _).set h1 _).set h1 _, by omega, h3, by rw [hz]; exact h4, h1, by rw [hz]; omega, .inl h2⟩
  · exact cell_set_other (cell_set_other (cell_set_same q0) (by omega)) (by omega)
  · exact cell_set_other (cell_set_same (cell_set_other q1 (by omega))) (by omega)
  · exact cell_set_same (cell_set_other (cell_set_other q2 (by omega)) (by omega))
end
/-- Behind a draw a step is a step. -/
theorem Step.of_drew {W W' : World} (h : Step W.drew W') : Step W W' := ⟨h.os, h.tape, h.output, h.size, h.block⟩

end Go.Proofs.Ytmgifmgdfldheaa
