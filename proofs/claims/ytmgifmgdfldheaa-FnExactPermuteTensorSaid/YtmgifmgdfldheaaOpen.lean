/-
  The arguments of a law, opened: a slice of ints, a tensor, a ring. No condition.
-/
import Derived.Test.YtmgifmgdfldheaaBase
import Derived.Lib.SmallJoins
import Derived.OpenShut
import Derived.ChangeOld
namespace Go.Proofs.Ytmgifmgdfldheaa
open Go.ChangeShapes Go.WideShapes Go.ChangeAt Go.RowKit

theorem own : ownKnob Try.prog.godebug = none := by kernel_rfl
theorem laidOut : laidOutB Try.prog = true := by kernel_rfl

def I64 (x : Int) : Prop := -9223372036854775808 ≤ x ∧ x ≤ 9223372036854775807
theorem I64.of_wf {x : Int} (h : (Lit.int .i64 x).wf = true) : I64 x := by
  have h' : (decide ((-9223372036854775808 : Int) ≤ x) && decide (x ≤ (9223372036854775807 : Int))) = true := h
  simpa [I64] using h'

/-- What is known of a slice of ints that came in. -/
structure SlIn (w : World) (A : Option Addr) (n c : Nat) (xs : List Int) : Prop where
  at_ : IntsAt w w.heap.size A n xs
  len : n ≤ 9223372036854775807
  cap : n ≤ c
  wf : ∀ x ∈ xs, I64 x
structure TnIn (w : World) (A0 : Option Addr) (n0 c0 : Nat) (A1 : Option Addr) (n1 c1 : Nat) (A2 : Option Addr) (n2 c2 : Nat) (t : Ten) : Prop where
  l : SlIn w A0 n0 c0 t.labels
  d : SlIn w A1 n1 c1 t.dims
  x : SlIn w A2 n2 c2 t.data
theorem TnIn.ten {w : World} {A0 : Option Addr} {n0 c0 : Nat} {A1 : Option Addr} {n1 c1 : Nat} {A2 : Option Addr} {n2 c2 : Nat} {t : Ten} (h : TnIn w A0 n0 c0 A1 n1 c1 A2 n2 c2 t) : TenAt w w.heap.size A0 n0 A1 n1 A2 n2 t := ⟨h.l.at_, h.d.at_, h.x.at_⟩

theorem IntsAt.of_row {w : World} {a : Addr} {len cap : Nat} {zs : List Int} (hl : len ≤ cap) (hz : zs.length = cap) (hc : ∀ i, i < zs.length → w.cell? (a.add i) = some (.int .i64 (zs.getD i 0))) : IntsAt w w.heap.size (some a) len (zs.take len) := by
  refine ⟨by simp; omega, fun hn => ?_⟩
  obtain ⟨b, off, spot⟩ := a
  have h0 := hc 0 (by omega)
  have hs : spot = none := by simpa [Addr.add] using World.cell?_spot h0
  subst hs
  have hb := World.block_lt_of_cell? w _ h0
  refine ⟨b, off, rfl, by simpa [Addr.add] using hb, fun j hj => ?_⟩
  have h := hc j (by omega)
  have e : (⟨b, off, none⟩ : Addr).add j = ⟨b, off + j, none⟩ := by unfold Addr.add; split <;> simp_all
  rw [e] at h
  rw [h]
  simp [hj]

section
variable {H : Type} {enc : TypeId × Value → H} {w : World} {base : Nat} {held : Bool} {r : Reach}
theorem open_sl_cells {fuel : Nat} {v : Value} {x : DataW H × List MemPlace} (h : DataW.trod enc Try.prog w base (fun _ => true) held fuel 22 [v] = some x) :
    ∃ A n c xs, v = .slice A n c ∧ SlIn w A n c xs := by
  rcases open_ints Try.underlying22 Try.underlying3 (by kernel_rfl) h with ⟨hcs, _⟩ | ⟨a, len, cap, zs, hcs, _, hl, hm, hz, _, hcell, hwz⟩
  · obtain rfl : v = .slice none 0 0 := by simpa using hcs
    exact ⟨none, 0, 0, [], rfl, IntsAt.nil, by omega, by omega, fun x hx => by cases hx⟩
  · obtain rfl : v = .slice (some a) len cap := by simpa using hcs
    have hz' : zs.length = cap := by simpa using hz
    exact ⟨some a, len, cap, zs.take len, rfl, IntsAt.of_row hl hz' hcell, by unfold maxLen at hm; omega, hl, fun x hx => I64.of_wf (hwz x (List.mem_of_mem_take hx))⟩
theorem open_sl {b0 : Nat} {v : Value} {d : DataW H} {p : List MemPlace} (hv : Value.okWide Try.prog w r b0 22 v) (h : DataW.Trod enc Try.prog w base (fun _ => true) held 22 v d p) :
    ∃ A n c xs, v = .slice A n c ∧ SlIn w A n c xs := by
  obtain ⟨A, n, c, rfl⟩ := okWide_slice Try.underlying22 hv
  obtain ⟨fuel, hf⟩ := h
  exact open_sl_cells (v := .slice A n c) hf
theorem open_tensor {b0 : Nat} {v : Value} {d : DataW H} {p : List MemPlace} (hv : Value.okWide Try.prog w r b0 24 v) (h : DataW.Trod enc Try.prog w base (fun _ => true) held 24 v d p) :
    ∃ A0 n0 c0 A1 n1 c1 A2 n2 c2 t, v = .agg #[.slice A0 n0 c0, .slice A1 n1 c1, .slice A2 n2 c2] ∧ TnIn w A0 n0 c0 A1 n1 c1 A2 n2 c2 t := by
  obtain ⟨v0, v1, v2, y0, y1, y2, m, rfl, _, _, h0, h1, h2⟩ := Joins.open_agg3 Try.underlying24 (by kernel_rfl) (by kernel_rfl) hv h
  obtain ⟨A0, n0, c0, xs0, rfl, s0⟩ := open_sl_cells h0
  obtain ⟨A1, n1, c1, xs1, rfl, s1⟩ := open_sl_cells h1
  obtain ⟨A2, n2, c2, xs2, rfl, s2⟩ := open_sl_cells h2
  exact ⟨A0, n0, c0, A1, n1, c1, A2, n2, c2, ⟨xs0, xs1, xs2⟩, rfl, s0, s1, s2⟩
theorem open_i64 {b0 : Nat} {v : Value} {d : DataW H} {p : List MemPlace} (hv : Value.okWide Try.prog w r b0 3 v) (h : DataW.Trod enc Try.prog w base (fun _ => true) held 3 v d p) : ∃ x, v = .int .i64 x ∧ I64 x := by
  obtain ⟨x, rfl, _, _, wx⟩ := open_int Try.underlying3 hv h
  exact ⟨x, rfl, I64.of_wf wx⟩
theorem open_ring {b0 : Nat} {v : Value} {d : DataW H} {p : List MemPlace} (hv : Value.okWide Try.prog w r b0 43 v) (h : DataW.Trod enc Try.prog w base (fun _ => true) held 43 v d p) :
    ∃ k p n, v = .agg #[.int .i64 k, .int .i64 p, .int .i64 n] ∧ I64 k ∧ I64 p ∧ I64 n := by
  obtain ⟨v0, v1, v2, y0, y1, y2, m, rfl, _, _, h0, h1, h2⟩ := Joins.open_agg3 Try.underlying43 (by kernel_rfl) (by kernel_rfl) hv h
  obtain ⟨a, e0, _, w0⟩ := DataW.trod_int Try.underlying3 h0
  obtain ⟨b, e1, _, w1⟩ := DataW.trod_int Try.underlying3 h1
  obtain ⟨c, e2, _, w2⟩ := DataW.trod_int Try.underlying3 h2
  simp at e0 e1 e2
  subst e0 e1 e2
  exact ⟨a, b, c, rfl, I64.of_wf w0, I64.of_wf w1, I64.of_wf w2⟩
end

end Go.Proofs.Ytmgifmgdfldheaa
