/-
  LIFT, part 28: slices of ints, tensors and rings as data; the contracts of the hand-made walks as contracts on data. No condition.
-/
import Derived.Test.YtodlbhjnmdhjiaaDoorLiftF
import Derived.Test.YtodlbhjnmdhjiaaDoorHandA
namespace Go.Proofs.YtodlbhjnmdhjiaaDoor
open Go.RowKit Go.Lift

def topL (w : World) : Labels := fun b => if b < w.heap.size then .im else .off
def ringA (k p n : Int) : AV := .agg [.d (.int k), .d (.int p), .d (.int n)]
def tenA (t : Ten) : AV := .agg [.d (ints t.labels), .d (ints t.dims), .d (ints t.data)]

def ownT (k : Nat) (t : Ten) : AV := .agg [.own k 0 t.labels.length, .own (k + 1) 0 t.dims.length, .own (k + 2) 0 t.data.length]
def stoF (t : Ten) : Sto := [some ⟨1, false, iv t.labels⟩, some ⟨1, false, iv t.dims⟩, some ⟨1, false, iv t.data⟩]
def stoT (t : Ten) : Sto := [some ⟨1, true, iv t.labels⟩, some ⟨1, true, iv t.dims⟩, some ⟨1, true, iv t.data⟩]

section
variable {w : World} {γ : Labels} {φ : Nat → Nat} {s : St} {I : Nat → Prop} {xs : List Int}
theorem rdL_iff : ∀ {xs : List Int} {b o : Nat}, RdL w I (dv xs) b o ↔ ∀ j, j < xs.length → w.cell? ⟨b, o + j, none⟩ = some (.int .i64 (xs.getD j 0))
  | [], b, o => by simp [dv, RdL]
  | x :: l, b, o => by
    have ih := @rdL_iff l b (o + 1)
    simp only [dv, List.map_cons, RdL, Rd] at ih ⊢
    constructor
    · rintro ⟨⟨v, h1, rfl⟩, h2⟩ j hj
      cases j with
      | zero => simpa using h1
      | succ j => have := ih.1 h2 j (by simpa using hj); simpa [Nat.add_assoc, Nat.add_comm 1 j] using this
    · intro h
      refine ⟨⟨_, by simpa using h 0 (by simp), rfl⟩, ih.2 fun j hj => ?_⟩
      have := h (j + 1) (by simpa using hj)
      simpa [Nat.add_assoc, Nat.add_comm 1 j] using this
theorem Rd.ok {v : Value} (h : Rd w (Im w γ) (ints xs) v) (hn : xs.length ≤ 1099511627776) (hw : ∀ x ∈ xs, I64 x) : ∃ A c, v = .slice A xs.length c ∧ SlOk w A xs.length c xs := by
  simp only [ints, Rd] at h
  obtain ⟨A, c, rfl, hc, h⟩ := h
  refine ⟨A, c, rfl, ⟨rfl, fun h0 => ?_⟩, hn, hc, hw⟩
  rcases h with ⟨h, _⟩ | ⟨b, o, rfl, hb, h⟩
  · omega
  · exact ⟨b, o, rfl, hb.1, rdL_iff.1 h⟩
theorem SlIn.rd {A : Option Addr} {n c : Nat} (h : SlIn w A n c xs) : Rd w (Im w (topL w)) (ints xs) (.slice A n c) := by
  obtain ⟨⟨h1, h2⟩, _, h3, _⟩ := h
  subst h1
  simp only [ints, Rd]
  refine ⟨A, c, rfl, h3, ?_⟩
  by_cases h0 : 0 < xs.length
  · obtain ⟨b, o, rfl, hb, hc⟩ := h2 h0
    exact .inr ⟨b, o, rfl, ⟨hb, by simp [topL, hb]⟩, rdL_iff.2 hc⟩
  · left
    have : xs = [] := List.eq_nil_of_length_eq_zero (by omega)
    subst this
    exact ⟨rfl, rfl⟩
end
/-- What a contract needs of a list: it is not too long, and its members are machine integers. -/
structure Sz (m : Nat) (xs : List Int) : Prop where
  len : xs.length ≤ m
  wf : ∀ x ∈ xs, I64 x
structure TSz (m : Nat) (t : Ten) : Prop where
  l : Sz m t.labels
  d : Sz m t.dims
  x : Sz m t.data
section
variable {w : World} {γ : Labels} {φ : Nat → Nat} {s : St} {m : Nat} {xs : List Int} {t : Ten}
theorem rel_ints {v : Value} (h : Rel w γ φ s (.d (ints xs)) v) (hs : Sz 1099511627776 xs) : ∃ A c, v = .slice A xs.length c ∧ SlOk w A xs.length c xs := by
  rw [Rel] at h
  exact Rd.ok h hs.len hs.wf
theorem rel_int {v : Value} {x : Int} (h : Rel w γ φ s (.d (.int x)) v) : v = .int .i64 x := by simpa only [Rel, Rd] using h
theorem rel_ring {v : Value} {k p n : Int} (h : Rel w γ φ s (ringA k p n) v) : v = .agg #[.int .i64 k, .int .i64 p, .int .i64 n] := by
  simp only [ringA, Rel, RelL, Rd] at h
  obtain ⟨vs, rfl, _, _, h0, rfl, _, _, rfl, rfl, _, _, rfl, rfl, rfl⟩ := h
  congr 1
  exact Array.toList_inj.1 (by simpa using h0)
theorem rel_ten {v : Value} (h : Rel w γ φ s (tenA t) v) (hs : TSz 1099511627776 t) : ∃ A0 c0 A1 c1 A2 c2, v = .agg #[.slice A0 t.labels.length c0, .slice A1 t.dims.length c1, .slice A2 t.data.length c2] ∧
    TnOk w A0 t.labels.length c0 A1 t.dims.length c1 A2 t.data.length c2 t := by
  simp only [tenA, Rel, RelL] at h
  obtain ⟨vs, rfl, _, _, h0, r0, _, _, rfl, r1, _, _, rfl, r2, rfl⟩ := h
  obtain ⟨A0, c0, rfl, o0⟩ := Rd.ok r0 hs.l.len hs.l.wf
  obtain ⟨A1, c1, rfl, o1⟩ := Rd.ok r1 hs.d.len hs.d.wf
  obtain ⟨A2, c2, rfl, o2⟩ := Rd.ok r2 hs.x.len hs.x.wf
  exact ⟨A0, c0, A1, c1, A2, c2, congrArg Value.agg (Array.toList_inj.1 (by simpa using h0)), o0, o1, o2⟩
theorem rel1 {a : AV} {vals : List Value} (h : RelL w γ φ s [a] vals) : ∃ v, vals = [v] ∧ Rel w γ φ s a v := by
  simp only [RelL] at h
  obtain ⟨v, _, rfl, h, rfl⟩ := h
  exact ⟨v, rfl, h⟩
theorem rel2 {a b : AV} {vals : List Value} (h : RelL w γ φ s [a, b] vals) : ∃ v u, vals = [v, u] ∧ Rel w γ φ s a v ∧ Rel w γ φ s b u := by
  simp only [RelL] at h
  obtain ⟨v, _, rfl, h, u, _, rfl, h', rfl⟩ := h
  exact ⟨v, u, rfl, h, h'⟩
theorem rel3 {a b c : AV} {vals : List Value} (h : RelL w γ φ s [a, b, c] vals) : ∃ v u x, vals = [v, u, x] ∧ Rel w γ φ s a v ∧ Rel w γ φ s b u ∧ Rel w γ φ s c x := by
  simp only [RelL] at h
  obtain ⟨v, _, rfl, h, u, _, rfl, h', x, _, rfl, h'', rfl⟩ := h
  exact ⟨v, u, x, rfl, h, h', h''⟩
theorem rv_int (x : Int) : ∀ w γ φ s, Rel w γ φ s (.d (.int x)) (.int .i64 x) := fun w γ φ s => by simp only [Rel, Rd]
theorem rv_bool (x : Bool) : ∀ w γ φ s, Rel w γ φ s (.d (.bool x)) (.bool x) := fun w γ φ s => by simp only [Rel, Rd]
theorem rel_SlIn {A : Option Addr} {n c : Nat} (h : SlIn w A n c xs) : Rel w (topL w) id (at_ []) (.d (ints xs)) (.slice A n c) := by rw [Rel]; exact h.rd
theorem rel_TnIn {A0 : Option Addr} {n0 c0 : Nat} {A1 : Option Addr} {n1 c1 : Nat} {A2 : Option Addr} {n2 c2 : Nat} (h : TnIn w A0 n0 c0 A1 n1 c1 A2 n2 c2 t) : Rel w (topL w) id (at_ []) (tenA t) (.agg #[.slice A0 n0 c0, .slice A1 n1 c1, .slice A2 n2 c2]) := by
  simp only [tenA, Rel, RelL]
  exact ⟨_, rfl, _, _, rfl, h.l.rd, _, _, rfl, h.d.rd, _, _, rfl, h.x.rd, rfl⟩
theorem ring_rel (k p n : Int) : Rel w (topL w) id (at_ []) (ringA k p n) (.agg #[.int .i64 k, .int .i64 p, .int .i64 n]) := by
  simp only [ringA, Rel, RelL, Rd]
  exact ⟨_, rfl, _, _, rfl, rfl, _, _, rfl, rfl, _, _, rfl, rfl, rfl⟩
end
def markL (xs : List Int) (k : Int) : List Int := (List.range xs.length).map fun (i : Nat) => k + (i : Int)
theorem markL_len (xs : List Int) (k : Int) : (markL xs k).length = xs.length := by simp [markL]
theorem markL_get {xs : List Int} {m : Int} {k : Nat} (h : k < xs.length) : (markL xs m)[k]? = some (m + k) := by simp [markL, h]
theorem markL_take (xs : List Int) (k : Int) : (markL xs k).take xs.length = markL xs k := by rw [← markL_len xs k, List.take_length]
/-- What heldIntS returns: the next mark, or -1. -/
def heldR (xs : List Int) (m : Int) : Int := if xs = markL xs m then m + xs.length else -1
theorem heldR_mark (xs : List Int) (m : Int) : heldR (markL xs m) m = m + xs.length := by
  have : markL xs m = markL (markL xs m) m := by unfold markL; simp
  rw [heldR, if_pos this, markL_len]
def markT (t : Ten) (m : Int) : Ten := ⟨markL t.labels m, markL t.dims (m + t.labels.length), markL t.data (m + t.labels.length + t.dims.length)⟩
theorem SlIn.size {w : World} {A : Option Addr} {n c : Nat} {xs : List Int} (h : SlIn w A n c xs) : Sz 9223372036854775807 xs := ⟨by rw [h.1.1]; exact h.2, h.4⟩
theorem TnIn.tsz {w : World} {A0 : Option Addr} {n0 c0 : Nat} {A1 : Option Addr} {n1 c1 : Nat} {A2 : Option Addr} {n2 c2 : Nat} {t : Ten} (h : TnIn w A0 n0 c0 A1 n1 c1 A2 n2 c2 t) : TSz 9223372036854775807 t := ⟨h.l.size, h.d.size, h.x.size⟩
attribute [go_sem] ownT stoT stoF tenA ringA markL_len markL_take markT
end Go.Proofs.YtodlbhjnmdhjiaaDoor
