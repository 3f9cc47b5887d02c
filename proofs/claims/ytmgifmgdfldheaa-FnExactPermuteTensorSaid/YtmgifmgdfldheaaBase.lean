/-
  Words for memory that all the walks of this seat share: a slice of ints that reads as a list, a slice of ints that the call owns, tensors of both kinds. No condition.
-/
import Derived.Test.YtmgifmgdfldheaaRows
import Derived.WalkKit
import Derived.ProofKit
import Derived.WalkSpells
import Derived.WalkLawsBesides
import Derived.Lib.Hide
import Derived.Deep.AppendLies
import Derived.Deep.Draws
import Derived.BigQuiet
import Derived.Deep.QuietTactic
namespace Go.Proofs.Ytmgifmgdfldheaa
open Go.RowKit

/-! ### A slice of ints that reads as a list -/

/-- The slice '(A, n)' holds the integers xs, in a block below B. -/
def IntsAt (w : World) (B : Nat) (A : Option Addr) (n : Nat) (xs : List Int) : Prop :=
  xs.length = n ∧ (0 < n → ∃ b off, A = some ⟨b, off, none⟩ ∧ b < B ∧ ∀ j, j < n → w.cell? ⟨b, off + j, none⟩ = some (.int .i64 (xs.getD j 0)))

section
variable {w w' : World} {B B' n : Nat} {A : Option Addr} {xs : List Int}
theorem IntsAt.len (h : IntsAt w B A n xs) : xs.length = n := h.1
theorem IntsAt.at_ (h : IntsAt w B A n xs) (hn : 0 < n) : ∃ b off, A = some ⟨b, off, none⟩ ∧ b < B ∧ ∀ j, j < n → w.cell? ⟨b, off + j, none⟩ = some (.int .i64 (xs.getD j 0)) := h.2 hn
theorem IntsAt.below (h : IntsAt w B A n xs) (hb : Below B' w w') (hB : B ≤ B') : IntsAt w' B A n xs :=
  ⟨h.1, fun hn => by
    obtain ⟨b, off, e, hlt, hc⟩ := h.2 hn
    exact ⟨b, off, e, hlt, fun j hj => (hb.cell (p := ⟨b, off + j, none⟩) (by show b < B'; omega)).trans (hc j hj)⟩⟩
theorem IntsAt.mono (h : IntsAt w B A n xs) (hB : B ≤ B') : IntsAt w B' A n xs :=
  ⟨h.1, fun hn => by
    obtain ⟨b, off, e, hlt, hc⟩ := h.2 hn
    exact ⟨b, off, e, by omega, hc⟩⟩
theorem IntsAt.drew (h : IntsAt w B A n xs) : IntsAt w.drew B A n xs := h
theorem IntsAt.drewN (h : IntsAt w B A n xs) (k : Nat) : IntsAt (w.drewN k) B A n xs := h
theorem IntsAt.take (h : IntsAt w B A n xs) {k : Nat} (hk : k ≤ n) : IntsAt w B A k (xs.take k) :=
  ⟨by have := h.1; simp; omega, fun h0 => by
    obtain ⟨b, off, e, hlt, hc⟩ := h.2 (by omega)
    refine ⟨b, off, e, hlt, fun j hj => (hc j (by omega)).trans ?_⟩
    simp [hj]⟩
theorem IntsAt.nil : IntsAt w B A 0 [] := ⟨rfl, fun h => absurd h (by omega)⟩
end

theorem bcell {B : Nat} {W w1 : World} (hb : Below B W w1) : (∀ b o, b < B → w1.cell? ⟨b, o, none⟩ = W.cell? ⟨b, o, none⟩) ∧ (∀ b o, b < B → w1.frozen? ⟨b, o, none⟩ = W.frozen? ⟨b, o, none⟩) :=
  ⟨fun b o h => hb.cell (p := ⟨b, o, none⟩) h, fun b o h => hb.frozen (p := ⟨b, o, none⟩) h⟩
theorem below_drewN {B : Nat} {a w : World} (h : Below B a w) (n : Nat) : Below B a (w.drewN n) := ⟨h.os, h.tape, h.output, h.size, h.block⟩

/-! ### A slice of ints that the call owns -/

def blkOf (A : Option Addr) : Option Nat := A.map (·.block)
/-- Two slices that lie in blocks of their own. -/
def Apart (A A' : Option Addr) : Prop := ∀ a a', A = some a → A' = some a' → a.block ≠ a'.block
theorem Apart.symm {A A' : Option Addr} (h : Apart A A') : Apart A' A := fun a a' e e' => (h a' a e' e).symm
theorem Apart.none_l (A : Option Addr) : Apart none A := fun _ _ e => by cases e
theorem Apart.none_r (A : Option Addr) : Apart A none := fun _ _ _ e => by cases e

/-- The slice '(A, n, c)' owns the integers xs: a whole block from lo on, below hi. -/
def OwnI (w : World) (lo hi : Nat) (A : Option Addr) (n c : Nat) (xs : List Int) : Prop :=
  xs.length = n ∧ w.ownsRow lo 3 1 (.slice A n c) n (xs.map (.int .i64)) ∧ ∀ a, A = some a → a.block < hi

section
variable {w w' : World} {lo hi lo' hi' B n c : Nat} {A A' : Option Addr} {xs : List Int}
theorem OwnI.len (h : OwnI w lo hi A n c xs) : xs.length = n := h.1
theorem OwnI.mono (h : OwnI w lo hi A n c xs) (hl : lo' ≤ lo) (hh : hi ≤ hi') : OwnI w lo' hi' A n c xs := by
  obtain ⟨h1, ⟨h2, h3⟩, h4⟩ := h
  refine ⟨h1, ⟨h2, ?_⟩, fun a e => Nat.lt_of_lt_of_le (h4 a e) hh⟩
  rcases h3 with h3 | ⟨g, cap, cur, hv, hg, r⟩
  · exact .inl h3
  · exact .inr ⟨g, cap, cur, hv, by omega, r⟩
/-- What it looks like: nil, or a whole block. -/
theorem OwnI.form (h : OwnI w lo hi A n c xs) : (A = none ∧ n = 0 ∧ c = 0 ∧ xs = []) ∨
    ∃ g cur, A = some ⟨g, 0, none⟩ ∧ lo ≤ g ∧ g < hi ∧ w.heap[g]? = some (.cells cur 3 (0, 0)) ∧ n ≤ c ∧ c ≤ maxLen ∧ cur.size = c ∧ cur.toList.take n = xs.map (.int .i64) := by
  obtain ⟨h1, ⟨h2, h3⟩, h4⟩ := h
  rcases h3 with ⟨hv, hn⟩ | ⟨g, cap, cur, hv, hg, hh, hnc, hm, hs, ht⟩
  · simp only [Value.slice.injEq] at hv
    obtain ⟨rfl, rfl, rfl⟩ := hv
    exact .inl ⟨rfl, rfl, rfl, List.eq_nil_of_length_eq_zero h1⟩
  · simp only [Value.slice.injEq] at hv
    obtain ⟨rfl, _, rfl⟩ := hv
    exact .inr ⟨g, cur, rfl, hg, h4 _ rfl, hh, hnc, hm, by simpa using hs, by simpa using ht⟩
theorem OwnI.mk_row (g : Nat) (cur : Array Value) (hl : xs.length = n) (hlo : lo ≤ g) (hhi : g < hi) (hh : w.heap[g]? = some (.cells cur 3 (0, 0))) (hnc : n ≤ c) (hm : c ≤ maxLen) (hs : cur.size = c)
    (ht : cur.toList.take n = xs.map (.int .i64)) : OwnI w lo hi (some ⟨g, 0, none⟩) n c xs :=
  ⟨hl, ⟨by simpa using hl, .inr ⟨g, c, cur, rfl, hlo, hh, hnc, hm, by simpa using hs, by simpa using ht⟩⟩, fun a e => by injection e with e; subst e; exact hhi⟩
theorem OwnI.nil : OwnI w lo hi none 0 0 [] := ⟨rfl, World.ownsRow_nil _ _ _ _, fun a e => by cases e⟩
theorem OwnI.ints (h : OwnI w lo hi A n c xs) : IntsAt w hi A n xs := by
  refine ⟨h.1, fun hn => ?_⟩
  rcases h.form with ⟨_, h0, _⟩ | ⟨g, cur, rfl, hlo, hhi, hh, hnc, hm, hs, ht⟩
  · omega
  · refine ⟨g, 0, rfl, hhi, fun j hj => ?_⟩
    rw [Nat.zero_add, cell_of_row w g j cur _ (0, 0) hh]
    have e : (cur.toList.take n)[j]? = (xs.map (Value.int .i64))[j]? := by rw [ht]
    rw [List.getElem?_take, if_pos hj] at e
    have hx : j < xs.length := by have := h.1; omega
    simpa [List.getElem?_eq_getElem hx] using e
theorem OwnI.grown (h : OwnI w lo hi A n c xs) {row : Option Nat} (hg : w.grownBy w' row) (hne : ∀ a, A = some a → some a.block ≠ row) : OwnI w' lo hi A n c xs := by
  rcases h.form with ⟨rfl, rfl, rfl, rfl⟩ | ⟨g, cur, rfl, hlo, hhi, hh, hnc, hm, hs, ht⟩
  · exact OwnI.nil
  · have hlt : g < w.heap.size := (Array.getElem?_eq_some_iff.1 hh).1
    exact OwnI.mk_row g cur h.1 hlo hhi ((hg.block g hlt (hne _ rfl)).trans hh) hnc hm hs ht
theorem OwnI.below (h : OwnI w lo hi A n c xs) (hb : Below B w w') (hB : hi ≤ B) : OwnI w' lo hi A n c xs := by
  rcases h.form with ⟨rfl, rfl, rfl, rfl⟩ | ⟨g, cur, rfl, hlo, hhi, hh, hnc, hm, hs, ht⟩
  · exact OwnI.nil
  · exact OwnI.mk_row g cur h.1 hlo hhi ((hb.block g (by omega)).trans hh) hnc hm hs ht
theorem OwnI.lt (h : OwnI w lo hi A n c xs) : ∀ a, A = some a → lo ≤ a.block ∧ a.block < w.heap.size ∧ a.block < hi := by
  intro a e
  rcases h.form with ⟨rfl, _⟩ | ⟨g, cur, rfl, hlo, hhi, hh, _⟩
  · cases e
  · injection e with e
    subst e
    exact ⟨hlo, (Array.getElem?_eq_some_iff.1 hh).1, hhi⟩
theorem OwnI.top (h : OwnI w lo hi A n c xs) : OwnI w lo w.heap.size A n c xs := ⟨h.1, h.2.1, fun a e => (h.lt a e).2.1⟩
theorem OwnI.apart {ys : List Int} {lo2 hi2 m d : Nat} (h : OwnI w lo hi A n c xs) (h2 : OwnI w' lo2 hi2 A' m d ys) (hle : hi ≤ lo2) : Apart A A' := fun a a' e e' => by
  have := (h.lt a e).2.2
  have := (h2.lt a' e').1
  omega
theorem OwnI.of_made (cs : Array Value) (hlo : lo ≤ w.heap.size) (hm : n ≤ maxLen) (hs : cs.size = n) (ht : cs.toList = xs.map (.int .i64)) :
    OwnI (w.alloc (.cells cs 3)) lo (w.heap.size + 1) (some ⟨w.heap.size, 0, none⟩) n n xs := by
  have hl : xs.length = n := by rw [← hs, ← Array.length_toList, ht, List.length_map]
  exact OwnI.mk_row _ cs hl hlo (by omega) (heap_alloc_new w _) (Nat.le_refl _) hm hs (by rw [List.take_of_length_le (by rw [Array.length_toList]; omega), ht])
/-- A store into the owned block. -/
theorem OwnI.set {g : Nat} (h : OwnI w lo hi (some ⟨g, 0, none⟩) n c xs) (j : Nat) (x : Int) :
    OwnI (w.setCell ⟨g, j, none⟩ (.int .i64 x)) lo hi (some ⟨g, 0, none⟩) n c (xs.set j x) ∧ w.grownBy (w.setCell ⟨g, j, none⟩ (.int .i64 x)) (some g) := by
  have r := h.2.1.stored j (.int .i64 x)
  exact ⟨⟨by simpa using h.1, by simpa [List.map_set] using r.1, h.2.2⟩, r.2⟩
theorem OwnI.cell {g : Nat} (h : OwnI w lo hi (some ⟨g, 0, none⟩) n c xs) {j : Nat} (hj : j < n) : w.cell? ⟨g, j, none⟩ = some (.int .i64 (xs.getD j 0)) := by
  obtain ⟨b, off, e, _, hc⟩ := h.ints.2 (by omega)
  injection e with e
  injection e with e1 e2
  subst e1; subst e2
  simpa using hc j hj
theorem OwnI.frozen {g : Nat} (h : OwnI w lo hi (some ⟨g, 0, none⟩) n c xs) (j : Nat) : w.frozen? ⟨g, j, none⟩ = false := h.2.1.frozenAt j
theorem OwnI.addr (h : OwnI w lo hi A n c xs) (hn : 0 < n) : ∃ g, A = some ⟨g, 0, none⟩ ∧ lo ≤ g ∧ g < hi ∧ g < w.heap.size := by
  rcases h.form with ⟨_, h0, _⟩ | ⟨g, cur, rfl, hlo, hhi, hh, _⟩
  · omega
  · exact ⟨g, rfl, hlo, hhi, (Array.getElem?_eq_some_iff.1 hh).1⟩
end

theorem only_setCell1 (w : World) (g j : Nat) (u : Value) : w.grownBy (w.setCell ⟨g, j, none⟩ u) (some g) :=
  ⟨rfl, rfl, rfl, by simp [World.setCell], fun k _ hk => heap_setCell_other w ⟨g, j, none⟩ k u (fun e => hk (by simp [e]))⟩

theorem OwnI.cap {w : World} {lo hi n c : Nat} {A : Option Addr} {xs : List Int} (h : OwnI w lo hi A n c xs) : n ≤ c := by
  rcases h.form with ⟨rfl, rfl, rfl, rfl⟩ | ⟨g, cur, rfl, hlo, hhi, hh, hnc, hm, hs, ht⟩ <;> omega
/-- A store into a block below the owned ones. -/
theorem OwnI.far {w : World} {lo hi n c g j : Nat} {A : Option Addr} {xs : List Int} (h : OwnI w lo hi A n c xs) (u : Value) (hg : g < lo) : OwnI (w.setCell ⟨g, j, none⟩ u) lo hi A n c xs :=
  h.grown (only_setCell1 w g j u) (fun a e => by have := h.lt a e; simp; omega)
theorem size_setCell (w : World) (a : Addr) (u : Value) : (w.setCell a u).heap.size = w.heap.size := by simp [World.setCell]

/-- Of what was there only blocks in S have turned. -/
structure Only (S : Nat → Prop) (w w' : World) : Prop where
  os : w'.os = w.os
  tape : w'.tape = w.tape
  output : w'.output = w.output
  size : w.heap.size ≤ w'.heap.size
  block : ∀ k, k < w.heap.size → ¬ S k → w'.heap[k]? = w.heap[k]?
section
variable {S S' : Nat → Prop} {w w' w'' : World} {B : Nat}
theorem Only.refl (S : Nat → Prop) (w : World) : Only S w w := ⟨rfl, rfl, rfl, Nat.le_refl _, fun _ _ _ => rfl⟩
theorem Only.trans (h : Only S w w') (h' : Only S w' w'') : Only S w w'' :=
  ⟨h'.os.trans h.os, h'.tape.trans h.tape, h'.output.trans h.output, Nat.le_trans h.size h'.size, fun k hk hn => (h'.block k (Nat.lt_of_lt_of_le hk h.size) hn).trans (h.block k hk hn)⟩
theorem Only.mono (h : Only S w w') (hs : ∀ k, k < w.heap.size → S k → S' k) : Only S' w w' := ⟨h.os, h.tape, h.output, h.size, fun k hk hn => h.block k hk (fun x => hn (hs k hk x))⟩
theorem Only.of_grown {row : Option Nat} (h : w.grownBy w' row) : Only (fun k => some k = row) w w' := ⟨h.os, h.tape, h.output, h.size, h.block⟩
theorem Only.of_below (h : Below B w w') : Only (fun k => B ≤ k) w w' := ⟨h.os, h.tape, h.output, h.size, fun k _ hn => h.block k (by omega)⟩
theorem Only.old (h : Below w.heap.size w w') (S : Nat → Prop) : Only S w w' := ⟨h.os, h.tape, h.output, h.size, fun k hk _ => h.block k hk⟩
theorem Only.below (h : Only S w w') (hB : B ≤ w.heap.size) (hs : ∀ k, S k → B ≤ k) : Below B w w' := ⟨h.os, h.tape, h.output, h.size, fun k hk => h.block k (by omega) (fun x => by have := hs k x; omega)⟩
theorem Only.cells (h : Only S w w') {b : Nat} (hb : b < w.heap.size) (hn : ¬ S b) : (∀ o, w'.cell? ⟨b, o, none⟩ = w.cell? ⟨b, o, none⟩) ∧ (∀ o, w'.frozen? ⟨b, o, none⟩ = w.frozen? ⟨b, o, none⟩) :=
  ⟨fun o => World.cell?_of_block (a := ⟨b, o, none⟩) (h.block b hb hn), fun o => World.frozen?_of_block (a := ⟨b, o, none⟩) (h.block b hb hn)⟩
theorem IntsAt.only {n : Nat} {A : Option Addr} {xs : List Int} (h : IntsAt w B A n xs) (ho : Only S w w') (hB : B ≤ w.heap.size) (hn : ∀ a, A = some a → ¬ S a.block) : IntsAt w' B A n xs :=
  ⟨h.1, fun h0 => by
    obtain ⟨b, off, e, hlt, hc⟩ := h.2 h0
    exact ⟨b, off, e, hlt, fun j hj => ((ho.cells (b := b) (by omega) (hn _ e)).1 (off + j)).trans (hc j hj)⟩⟩
theorem OwnI.only {lo hi n c : Nat} {A : Option Addr} {xs : List Int} (h : OwnI w lo hi A n c xs) (ho : Only S w w') (hn : ∀ a, A = some a → ¬ S a.block) : OwnI w' lo hi A n c xs := by
  rcases h.form with ⟨rfl, rfl, rfl, rfl⟩ | ⟨g, cur, rfl, hlo, hhi, hh, hnc, hm, hs, ht⟩
  · exact OwnI.nil
  · have hlt : g < w.heap.size := (Array.getElem?_eq_some_iff.1 hh).1
    exact OwnI.mk_row g cur h.1 hlo hhi ((ho.block g hlt (hn _ rfl)).trans hh) hnc hm hs ht
end
theorem OwnI.old {w w' : World} {lo hi n c : Nat} {A : Option Addr} {xs : List Int} (h : OwnI w lo hi A n c xs) (hb : Below w.heap.size w w') : OwnI w' lo hi A n c xs :=
  h.only (Only.old hb (fun _ => False)) (fun _ _ x => x)
theorem Apart.ne {A A' : Option Addr} (h : Apart A A') {a : Addr} (e : A = some a) : some a.block ≠ blkOf A' := by
  rcases A' with _ | a'
  · simp [blkOf]
  · intro e'
    exact h a a' e rfl (by simpa [blkOf] using e')

/-! ### Tensors -/

structure Ten where
  labels : List Int
  dims : List Int
  data : List Int

structure TenAt (w : World) (B : Nat) (A0 : Option Addr) (n0 : Nat) (A1 : Option Addr) (n1 : Nat) (A2 : Option Addr) (n2 : Nat) (t : Ten) : Prop where
  l : IntsAt w B A0 n0 t.labels
  d : IntsAt w B A1 n1 t.dims
  x : IntsAt w B A2 n2 t.data

structure OwnT (w : World) (lo hi : Nat) (A0 : Option Addr) (n0 c0 : Nat) (A1 : Option Addr) (n1 c1 : Nat) (A2 : Option Addr) (n2 c2 : Nat) (t : Ten) : Prop where
  l : OwnI w lo hi A0 n0 c0 t.labels
  d : OwnI w lo hi A1 n1 c1 t.dims
  x : OwnI w lo hi A2 n2 c2 t.data
  ld : Apart A0 A1
  lx : Apart A0 A2
  dx : Apart A1 A2

section
variable {w w' : World} {B B' lo hi lo' hi' n0 c0 n1 c1 n2 c2 : Nat} {A0 A1 A2 : Option Addr} {t : Ten}
theorem TenAt.below (h : TenAt w B A0 n0 A1 n1 A2 n2 t) (hb : Below B' w w') (hB : B ≤ B') : TenAt w' B A0 n0 A1 n1 A2 n2 t := ⟨h.l.below hb hB, h.d.below hb hB, h.x.below hb hB⟩
theorem TenAt.mono (h : TenAt w B A0 n0 A1 n1 A2 n2 t) (hB : B ≤ B') : TenAt w B' A0 n0 A1 n1 A2 n2 t := ⟨h.l.mono hB, h.d.mono hB, h.x.mono hB⟩
theorem OwnT.tens (h : OwnT w lo hi A0 n0 c0 A1 n1 c1 A2 n2 c2 t) : TenAt w hi A0 n0 A1 n1 A2 n2 t := ⟨h.l.ints, h.d.ints, h.x.ints⟩
theorem OwnT.below (h : OwnT w lo hi A0 n0 c0 A1 n1 c1 A2 n2 c2 t) (hb : Below B w w') (hB : hi ≤ B) : OwnT w' lo hi A0 n0 c0 A1 n1 c1 A2 n2 c2 t :=
  ⟨h.l.below hb hB, h.d.below hb hB, h.x.below hb hB, h.ld, h.lx, h.dx⟩
theorem OwnT.mono (h : OwnT w lo hi A0 n0 c0 A1 n1 c1 A2 n2 c2 t) (hl : lo' ≤ lo) (hh : hi ≤ hi') : OwnT w lo' hi' A0 n0 c0 A1 n1 c1 A2 n2 c2 t :=
  ⟨h.l.mono hl hh, h.d.mono hl hh, h.x.mono hl hh, h.ld, h.lx, h.dx⟩
end

theorem OwnT.far {w : World} {lo hi n0 c0 n1 c1 n2 c2 g j : Nat} {A0 A1 A2 : Option Addr} {t : Ten} (h : OwnT w lo hi A0 n0 c0 A1 n1 c1 A2 n2 c2 t) (u : Value) (hg : g < lo) : OwnT (w.setCell ⟨g, j, none⟩ u) lo hi A0 n0 c0 A1 n1 c1 A2 n2 c2 t :=
  ⟨h.l.far u hg, h.d.far u hg, h.x.far u hg, h.ld, h.lx, h.dx⟩

theorem OwnT.old {w w' : World} {lo hi n0 c0 n1 c1 n2 c2 : Nat} {A0 A1 A2 : Option Addr} {t : Ten} (h : OwnT w lo hi A0 n0 c0 A1 n1 c1 A2 n2 c2 t) (hb : Below w.heap.size w w') : OwnT w' lo hi A0 n0 c0 A1 n1 c1 A2 n2 c2 t :=
  ⟨h.l.old hb, h.d.old hb, h.x.old hb, h.ld, h.lx, h.dx⟩
/-- The blocks of a tensor. -/
def inT (A0 A1 A2 : Option Addr) (k : Nat) : Prop := some k = blkOf A0 ∨ some k = blkOf A1 ∨ some k = blkOf A2
theorem OwnT.inT_lt {w : World} {lo hi n0 c0 n1 c1 n2 c2 : Nat} {A0 A1 A2 : Option Addr} {t : Ten} (h : OwnT w lo hi A0 n0 c0 A1 n1 c1 A2 n2 c2 t) {k : Nat} (hk : inT A0 A1 A2 k) : lo ≤ k ∧ k < hi ∧ k < w.heap.size := by
  rcases hk with hk | hk | hk
  · rcases A0 with _ | a
    · simp [blkOf] at hk
    · have := h.l.lt a rfl; simp [blkOf] at hk; omega
  · rcases A1 with _ | a
    · simp [blkOf] at hk
    · have := h.d.lt a rfl; simp [blkOf] at hk; omega
  · rcases A2 with _ | a
    · simp [blkOf] at hk
    · have := h.x.lt a rfl; simp [blkOf] at hk; omega

/-! ### What a call comes to -/

/-- It returns v; old memory is as it was. -/
def RetV (w : World) (v : Value) (e : Ending) (w' : World) : Prop := e = .returned v ∧ Below w.heap.size w w'
/-- It returns a slice of its own that reads xs. -/
def RetI (w : World) (xs : List Int) (e : Ending) (w' : World) : Prop :=
  ∃ A c, e = .returned (.slice A xs.length c) ∧ OwnI w' w.heap.size w'.heap.size A xs.length c xs ∧ Below w.heap.size w w'
/-- It returns a slice of its own that reads xs, and a bool. -/
def RetIB (w : World) (xs : List Int) (b : Bool) (e : Ending) (w' : World) : Prop :=
  ∃ A c, e = .returned (.tuple #[.slice A xs.length c, .bool b]) ∧ OwnI w' w.heap.size w'.heap.size A xs.length c xs ∧ Below w.heap.size w w'
/-- It returns a tensor of its own. -/
def RetT (w : World) (t : Ten) (e : Ending) (w' : World) : Prop :=
  ∃ A0 c0 A1 c1 A2 c2, e = .returned (.agg #[.slice A0 t.labels.length c0, .slice A1 t.dims.length c1, .slice A2 t.data.length c2]) ∧
    OwnT w' w.heap.size w'.heap.size A0 t.labels.length c0 A1 t.dims.length c1 A2 t.data.length c2 t ∧ Below w.heap.size w w'
/-- It returns a tensor of its own, and a bool. -/
def RetTB (w : World) (t : Ten) (b : Bool) (e : Ending) (w' : World) : Prop :=
  ∃ A0 c0 A1 c1 A2 c2, e = .returned (.tuple #[.agg #[.slice A0 t.labels.length c0, .slice A1 t.dims.length c1, .slice A2 t.data.length c2], .bool b]) ∧
    OwnT w' w.heap.size w'.heap.size A0 t.labels.length c0 A1 t.dims.length c1 A2 t.data.length c2 t ∧ Below w.heap.size w w'

theorem ret_int {k : IntKind} {a b : Int} (h : a = b) : Ending.returned (.int k a) = .returned (.int k b) := by rw [h]
theorem ret_bool {a b : Bool} (h : a = b) : Ending.returned (.bool a) = .returned (.bool b) := by rw [h]
theorem int_info : (Try.prog.info? 3).map (fun i => (i.zero, i.size, i.bytes)) = some (some (.int .i64 0), 1, 8) := by kernel_rfl
/-- The cells of 'make([]int, n)'. -/
def zeros (n : Nat) : Array Value := madeCells #[.int .i64 0] n
theorem zeros_size (n : Nat) : (zeros n).size = n := size_madeCells _ _
theorem zeros_list (n : Nat) : (zeros n).toList = (List.replicate n (0 : Int)).map (.int .i64) := by
  rw [List.map_replicate]; exact toList_madeCells_one _ _
theorem run_make_ints (n c : Nat) (hn : n ≤ c) (hc : c ≤ 1099511627776) (W : World) :
    (Instr.makeSlice 22 (.int .i64 (n : Int)) (.int .i64 (c : Int))).run Try.prog W = .ok (.slice (some ⟨W.heap.size, 0, none⟩) n c) (W.alloc (.cells (zeros c) 3)) := by
  obtain ⟨i, hi, hz0, hz1, hz2⟩ := info_parts int_info
  have hr := run_make (P := Try.prog) W 22 3 i (.int .i64 0) Try.underlying22 hi hz0 .i64 .i64 n c (by omega) (by omega) (by rw [hz2]; omega) (by omega)
  simp only [Int.toNat_natCast, hz1, Nat.mul_one] at hr
  exact hr
theorem OwnI.zeros_ {w : World} {lo : Nat} (n : Nat) (hlo : lo ≤ w.heap.size) (hm : n ≤ 1099511627776) : OwnI (w.alloc (.cells (zeros n) 3)) lo (w.heap.size + 1) (some ⟨w.heap.size, 0, none⟩) n n (List.replicate n 0) :=
  OwnI.of_made (zeros n) hlo (by unfold maxLen; omega) (zeros_size n) (zeros_list n)
theorem replicate_ints (n : Nat) : (madeCells (Value.int .i64 0).cells (n * 1)).toList = (List.replicate n (0 : Int)).map (.int .i64) := by
  rw [Nat.mul_one, List.map_replicate]; exact toList_madeCells_one _ _

end Go.Proofs.Ytmgifmgdfldheaa
