/-
  Words for memory that all the walks of this seat share: a slice of ints that reads as a list, a slice of ints that the call owns, tensors of both kinds. No condition.
-/
import Derived.Test.YtodlbhjnmdhjiaaDoorRows
import Derived.WalkKit
import Derived.ProofKit
import Derived.WalkSpells
import Derived.WalkLawsBesides
import Derived.Lib.Hide
import Derived.Deep.AppendLies
import Derived.Deep.Draws
import Derived.BigQuiet
import Derived.Deep.QuietTactic
import Derived.Test.YtodlbhjnmdhjiaaDoorPlainA
import Derived.Lib.SmallJoins
import Derived.OpenShut
import Derived.ChangeOld
import Derived.Deep.RegionHeld3
import Derived.Deep.DeepCutAuto
namespace Go.Proofs.YtodlbhjnmdhjiaaDoor
open Go.RowKit

/-! ### A slice of ints that reads as a list -/

/-- The slice '(A, n)' holds the integers xs, in a block below B. -/
def IntsAt (w : World) (B : Nat) (A : Option Addr) (n : Nat) (xs : List Int) : Prop :=
  xs.length = n ∧ (0 < n → ∃ b off, A = some ⟨b, off, none⟩ ∧ b < B ∧ ∀ j, j < n → w.cell? ⟨b, off + j, none⟩ = some (.int .i64 (xs.getD j 0)))

section
variable {w w' : World} {B B' n : Nat} {A : Option Addr} {xs : List Int}
theorem IntsAt.len (h : IntsAt w B A n xs) : xs.length = n := h.1
theorem IntsAt.at_ (h : IntsAt w B A n xs) (hn : 0 < n) : ∃ b off, A = some ⟨b, off, none⟩ ∧ b < B ∧ ∀ j, j < n → w.cell? ⟨b, off + j, none⟩ = some (.int .i64 (xs.getD j 0)) := h.2 hn
theorem IntsAt.below (h : IntsAt w B A n xs) (hb : Below B' w w') (hB : B ≤ B') : IntsAt w' B A n xs :=
  ⟨h.1, fun hn => by
    obtain ⟨b, off, e, hlt, hc⟩ := h.2 hn
    exact ⟨b, off, e, hlt, fun j hj => (hb.cell (p := ⟨b, off + j, none⟩) (by show b < B'; omega)).trans (hc j hj)⟩⟩
theorem IntsAt.mono (h : IntsAt w B A n xs) (hB : B ≤ B') : IntsAt w B' A n xs :=
  ⟨h.1, fun hn => by
    obtain ⟨b, off, e, hlt, hc⟩ := h.2 hn
    exact ⟨b, off, e, by omega, hc⟩⟩
theorem IntsAt.drew (h : IntsAt w B A n xs) : IntsAt w.drew B A n xs := h
theorem IntsAt.drewN (h : IntsAt w B A n xs) (k : Nat) : IntsAt (w.drewN k) B A n xs := h
theorem IntsAt.take (h : IntsAt w B A n xs) {k : Nat} (hk : k ≤ n) : IntsAt w B A k (xs.take k) :=
  ⟨by have := h.1; simp; omega, fun h0 => by
    obtain ⟨b, off, e, hlt, hc⟩ := h.2 (by omega)
    refine ⟨b, off, e, hlt, fun j hj => (hc j (by omega)).trans ?_⟩
    simp [hj]⟩
theorem IntsAt.nil : IntsAt w B A 0 [] := ⟨rfl, fun h => absurd h (by omega)⟩
end

theorem bcell {B : Nat} {W w1 : World} (hb : Below B W w1) : (∀ b o, b < B → w1.cell? ⟨b, o, none⟩ = W.cell? ⟨b, o, none⟩) ∧ (∀ b o, b < B → w1.frozen? ⟨b, o, none⟩ = W.frozen? ⟨b, o, none⟩) :=
  ⟨fun b o h => hb.cell (p := ⟨b, o, none⟩) h, fun b o h => hb.frozen (p := ⟨b, o, none⟩) h⟩
theorem below_drewN {B : Nat} {a w : World} (h : Below B a w) (n : Nat) : Below B a (w.drewN n) := ⟨h.os, h.tape, h.output, h.size, h.block⟩

/-! ### A slice of ints that the call owns -/

def blkOf (A : Option Addr) : Option Nat := A.map (·.block)
/-- Two slices that lie in blocks of their own. -/
def Apart (A A' : Option Addr) : Prop := ∀ a a', A = some a → A' = some a' → a.block ≠ a'.block
theorem Apart.symm {A A' : Option Addr} (h : Apart A A') : Apart A' A := fun a a' e e' => (h a' a e' e).symm
theorem Apart.none_l (A : Option Addr) : Apart none A := fun _ _ e => by cases e
theorem Apart.none_r (A : Option Addr) : Apart A none := fun _ _ _ e => by cases e

/-- The slice '(A, n, c)' owns the integers xs: a whole block from lo on, below hi. -/
def OwnI (w : World) (lo hi : Nat) (A : Option Addr) (n c : Nat) (xs : List Int) : Prop :=
  xs.length = n ∧ w.ownsRow lo 3 1 (.slice A n c) n (xs.map (.int .i64)) ∧ ∀ a, A = some a → a.block < hi

section
variable {w w' : World} {lo hi lo' hi' B n c : Nat} {A A' : Option Addr} {xs : List Int}
theorem OwnI.len (h : OwnI w lo hi A n c xs) : xs.length = n := h.1
theorem OwnI.mono (h : OwnI w lo hi A n c xs) (hl : lo' ≤ lo) (hh : hi ≤ hi') : OwnI w lo' hi' A n c xs := by
  obtain ⟨h1, ⟨h2, h3⟩, h4⟩ := h
  refine ⟨h1, ⟨h2, ?_⟩, fun a e => Nat.lt_of_lt_of_le (h4 a e) hh⟩
  rcases h3 with h3 | ⟨g, cap, cur, hv, hg, r⟩
  · exact .inl h3
  · exact .inr ⟨g, cap, cur, hv, by omega, r⟩
/-- What it looks like: nil, or a whole block. -/
theorem OwnI.form (h : OwnI w lo hi A n c xs) : (A = none ∧ n = 0 ∧ c = 0 ∧ xs = []) ∨
    ∃ g cur, A = some ⟨g, 0, none⟩ ∧ lo ≤ g ∧ g < hi ∧ w.heap[g]? = some (.cells cur 3 (0, 0)) ∧ n ≤ c ∧ c ≤ maxLen ∧ cur.size = c ∧ cur.toList.take n = xs.map (.int .i64) := by
  obtain ⟨h1, ⟨h2, h3⟩, h4⟩ := h
  rcases h3 with ⟨hv, hn⟩ | ⟨g, cap, cur, hv, hg, hh, hnc, hm, hs, ht⟩
  · simp only [Value.slice.injEq] at hv
    obtain ⟨rfl, rfl, rfl⟩ := hv
    exact .inl ⟨rfl, rfl, rfl, List.eq_nil_of_length_eq_zero h1⟩
  · simp only [Value.slice.injEq] at hv
    obtain ⟨rfl, _, rfl⟩ := hv
    exact .inr ⟨g, cur, rfl, hg, h4 _ rfl, hh, hnc, hm, by simpa using hs, by simpa using ht⟩
theorem OwnI.mk_row (g : Nat) (cur : Array Value) (hl : xs.length = n) (hlo : lo ≤ g) (hhi : g < hi) (hh : w.heap[g]? = some (.cells cur 3 (0, 0))) (hnc : n ≤ c) (hm : c ≤ maxLen) (hs : cur.size = c)
    (ht : cur.toList.take n = xs.map (.int .i64)) : OwnI w lo hi (some ⟨g, 0, none⟩) n c xs :=
  ⟨hl, ⟨by simpa using hl, .inr ⟨g, c, cur, rfl, hlo, hh, hnc, hm, by simpa using hs, by simpa using ht⟩⟩, fun a e => by injection e with e; subst e; exact hhi⟩
theorem OwnI.nil : OwnI w lo hi none 0 0 [] := ⟨rfl, World.ownsRow_nil _ _ _ _, fun a e => by cases e⟩
theorem OwnI.ints (h : OwnI w lo hi A n c xs) : IntsAt w hi A n xs := by
  refine ⟨h.1, fun hn => ?_⟩
  rcases h.form with ⟨_, h0, _⟩ | ⟨g, cur, rfl, hlo, hhi, hh, hnc, hm, hs, ht⟩
  · omega
  · refine ⟨g, 0, rfl, hhi, fun j hj => ?_⟩
    rw [Nat.zero_add, cell_of_row w g j cur _ (0, 0) hh]
    have e : (cur.toList.take n)[j]? = (xs.map (Value.int .i64))[j]? := by rw [ht]
    rw [List.getElem?_take, if_pos hj] at e
    have hx : j < xs.length := by have := h.1; omega
    simpa [List.getElem?_eq_getElem hx] using e
theorem OwnI.grown (h : OwnI w lo hi A n c xs) {row : Option Nat} (hg : w.grownBy w' row) (hne : ∀ a, A = some a → some a.block ≠ row) : OwnI w' lo hi A n c xs := by
  rcases h.form with ⟨rfl, rfl, rfl, rfl⟩ | ⟨g, cur, rfl, hlo, hhi, hh, hnc, hm, hs, ht⟩
  · exact OwnI.nil
  · have hlt : g < w.heap.size := (Array.getElem?_eq_some_iff.1 hh).1
    exact OwnI.mk_row g cur h.1 hlo hhi ((hg.block g hlt (hne _ rfl)).trans hh) hnc hm hs ht
theorem OwnI.below (h : OwnI w lo hi A n c xs) (hb : Below B w w') (hB : hi ≤ B) : OwnI w' lo hi A n c xs := by
  rcases h.form with ⟨rfl, rfl, rfl, rfl⟩ | ⟨g, cur, rfl, hlo, hhi, hh, hnc, hm, hs, ht⟩
  · exact OwnI.nil
  · exact OwnI.mk_row g cur h.1 hlo hhi ((hb.block g (by omega)).trans hh) hnc hm hs ht
theorem OwnI.lt (h : OwnI w lo hi A n c xs) : ∀ a, A = some a → lo ≤ a.block ∧ a.block < w.heap.size ∧ a.block < hi := by
  intro a e
  rcases h.form with ⟨rfl, _⟩ | ⟨g, cur, rfl, hlo, hhi, hh, _⟩
  · cases e
  · injection e with e
    subst e
    exact ⟨hlo, (Array.getElem?_eq_some_iff.1 hh).1, hhi⟩
theorem OwnI.top (h : OwnI w lo hi A n c xs) : OwnI w lo w.heap.size A n c xs := ⟨h.1, h.2.1, fun a e => (h.lt a e).2.1⟩
theorem OwnI.apart {ys : List Int} {lo2 hi2 m d : Nat} (h : OwnI w lo hi A n c xs) (h2 : OwnI w' lo2 hi2 A' m d ys) (hle : hi ≤ lo2) : Apart A A' := fun a a' e e' => by
  have := (h.lt a e).2.2
  have := (h2.lt a' e').1
  omega
theorem OwnI.of_made (cs : Array Value) (hlo : lo ≤ w.heap.size) (hm : n ≤ maxLen) (hs : cs.size = n) (ht : cs.toList = xs.map (.int .i64)) :
    OwnI (w.alloc (.cells cs 3)) lo (w.heap.size + 1) (some ⟨w.heap.size, 0, none⟩) n n xs := by
  have hl : xs.length = n := by rw [← hs, ← Array.length_toList, ht, List.length_map]
  exact OwnI.mk_row _ cs hl hlo (by omega) (heap_alloc_new w _) (Nat.le_refl _) hm hs (by rw [List.take_of_length_le (by rw [Array.length_toList]; omega), ht])
/-- A store into the owned block. -/
theorem OwnI.set {g : Nat} (h : OwnI w lo hi (some ⟨g, 0, none⟩) n c xs) (j : Nat) (x : Int) :
    OwnI (w.setCell ⟨g, j, none⟩ (.int .i64 x)) lo hi (some ⟨g, 0, none⟩) n c (xs.set j x) ∧ w.grownBy (w.setCell ⟨g, j, none⟩ (.int .i64 x)) (some g) := by
  have r := h.2.1.stored j (.int .i64 x)
  exact ⟨⟨by simpa using h.1, by simpa [List.map_set] using r.1, h.2.2⟩, r.2⟩
theorem OwnI.cell {g : Nat} (h : OwnI w lo hi (some ⟨g, 0, none⟩) n c xs) {j : Nat} (hj : j < n) : w.cell? ⟨g, j, none⟩ = some (.int .i64 (xs.getD j 0)) := by
  obtain ⟨b, off, e, _, hc⟩ := h.ints.2 (by omega)
  injection e with e
  injection e with e1 e2
  subst e1; subst e2
  simpa using hc j hj
theorem OwnI.frozen {g : Nat} (h : OwnI w lo hi (some ⟨g, 0, none⟩) n c xs) (j : Nat) : w.frozen? ⟨g, j, none⟩ = false := h.2.1.frozenAt j
theorem OwnI.addr (h : OwnI w lo hi A n c xs) (hn : 0 < n) : ∃ g, A = some ⟨g, 0, none⟩ ∧ lo ≤ g ∧ g < hi ∧ g < w.heap.size := by
  rcases h.form with ⟨_, h0, _⟩ | ⟨g, cur, rfl, hlo, hhi, hh, _⟩
  · omega
  · exact ⟨g, rfl, hlo, hhi, (Array.getElem?_eq_some_iff.1 hh).1⟩
end

theorem only_setCell1 (w : World) (g j : Nat) (u : Value) : w.grownBy (w.setCell ⟨g, j, none⟩ u) (some g) :=
  ⟨rfl, rfl, rfl, by simp [World.setCell], fun k _ hk => heap_setCell_other w ⟨g, j, none⟩ k u (fun e => hk (by simp [e]))⟩

theorem OwnI.cap {w : World} {lo hi n c : Nat} {A : Option Addr} {xs : List Int} (h : OwnI w lo hi A n c xs) : n ≤ c := by
  rcases h.form with ⟨rfl, rfl, rfl, rfl⟩ | ⟨g, cur, rfl, hlo, hhi, hh, hnc, hm, hs, ht⟩ <;> omega
/-- A store into a block below the owned ones. -/
theorem OwnI.far {w : World} {lo hi n c g j : Nat} {A : Option Addr} {xs : List Int} (h : OwnI w lo hi A n c xs) (u : Value) (hg : g < lo) : OwnI (w.setCell ⟨g, j, none⟩ u) lo hi A n c xs :=
  h.grown (only_setCell1 w g j u) (fun a e => by have := h.lt a e; simp; omega)
theorem size_setCell (w : World) (a : Addr) (u : Value) : (w.setCell a u).heap.size = w.heap.size := by simp [World.setCell]

/-- Of what was there only blocks in S have turned. -/
structure Only (S : Nat → Prop) (w w' : World) : Prop where
  os : w'.os = w.os
  tape : w'.tape = w.tape
  output : w'.output = w.output
  size : w.heap.size ≤ w'.heap.size
  block : ∀ k, k < w.heap.size → ¬ S k → w'.heap[k]? = w.heap[k]?
section
variable {S S' : Nat → Prop} {w w' w'' : World} {B : Nat}
theorem Only.refl (S : Nat → Prop) (w : World) : Only S w w := ⟨rfl, rfl, rfl, Nat.le_refl _, fun _ _ _ => rfl⟩
theorem Only.trans (h : Only S w w') (h' : Only S w' w'') : Only S w w'' :=
  ⟨h'.os.trans h.os, h'.tape.trans h.tape, h'.output.trans h.output, Nat.le_trans h.size h'.size, fun k hk hn => (h'.block k (Nat.lt_of_lt_of_le hk h.size) hn).trans (h.block k hk hn)⟩
theorem Only.mono (h : Only S w w') (hs : ∀ k, k < w.heap.size → S k → S' k) : Only S' w w' := ⟨h.os, h.tape, h.output, h.size, fun k hk hn => h.block k hk (fun x => hn (hs k hk x))⟩
theorem Only.of_grown {row : Option Nat} (h : w.grownBy w' row) : Only (fun k => some k = row) w w' := ⟨h.os, h.tape, h.output, h.size, h.block⟩
theorem Only.of_below (h : Below B w w') : Only (fun k => B ≤ k) w w' := ⟨h.os, h.tape, h.output, h.size, fun k _ hn => h.block k (by omega)⟩
theorem Only.old (h : Below w.heap.size w w') (S : Nat → Prop) : Only S w w' := ⟨h.os, h.tape, h.output, h.size, fun k hk _ => h.block k hk⟩
theorem Only.below (h : Only S w w') (hB : B ≤ w.heap.size) (hs : ∀ k, S k → B ≤ k) : Below B w w' := ⟨h.os, h.tape, h.output, h.size, fun k hk => h.block k (by omega) (fun x => by have := hs k x; omega)⟩
theorem Only.cells (h : Only S w w') {b : Nat} (hb : b < w.heap.size) (hn : ¬ S b) : (∀ o, w'.cell? ⟨b, o, none⟩ = w.cell? ⟨b, o, none⟩) ∧ (∀ o, w'.frozen? ⟨b, o, none⟩ = w.frozen? ⟨b, o, none⟩) :=
  ⟨fun o => World.cell?_of_block (a := ⟨b, o, none⟩) (h.block b hb hn), fun o => World.frozen?_of_block (a := ⟨b, o, none⟩) (h.block b hb hn)⟩
theorem IntsAt.only {n : Nat} {A : Option Addr} {xs : List Int} (h : IntsAt w B A n xs) (ho : Only S w w') (hB : B ≤ w.heap.size) (hn : ∀ a, A = some a → ¬ S a.block) : IntsAt w' B A n xs :=
  ⟨h.1, fun h0 => by
    obtain ⟨b, off, e, hlt, hc⟩ := h.2 h0
    exact ⟨b, off, e, hlt, fun j hj => ((ho.cells (b := b) (by omega) (hn _ e)).1 (off + j)).trans (hc j hj)⟩⟩
theorem OwnI.only {lo hi n c : Nat} {A : Option Addr} {xs : List Int} (h : OwnI w lo hi A n c xs) (ho : Only S w w') (hn : ∀ a, A = some a → ¬ S a.block) : OwnI w' lo hi A n c xs := by
  rcases h.form with ⟨rfl, rfl, rfl, rfl⟩ | ⟨g, cur, rfl, hlo, hhi, hh, hnc, hm, hs, ht⟩
  · exact OwnI.nil
  · have hlt : g < w.heap.size := (Array.getElem?_eq_some_iff.1 hh).1
    exact OwnI.mk_row g cur h.1 hlo hhi ((ho.block g hlt (hn _ rfl)).trans hh) hnc hm hs ht
end
theorem OwnI.old {w w' : World} {lo hi n c : Nat} {A : Option Addr} {xs : List Int} (h : OwnI w lo hi A n c xs) (hb : Below w.heap.size w w') : OwnI w' lo hi A n c xs :=
  h.only (Only.old hb (fun _ => False)) (fun _ _ x => x)
theorem Apart.ne {A A' : Option Addr} (h : Apart A A') {a : Addr} (e : A = some a) : some a.block ≠ blkOf A' := by
  rcases A' with _ | a'
  · simp [blkOf]
  · intro e'
    exact h a a' e rfl (by simpa [blkOf] using e')

/-! ### Tensors -/

structure Ten where
  labels : List Int
  dims : List Int
  data : List Int

structure TenAt (w : World) (B : Nat) (A0 : Option Addr) (n0 : Nat) (A1 : Option Addr) (n1 : Nat) (A2 : Option Addr) (n2 : Nat) (t : Ten) : Prop where
  l : IntsAt w B A0 n0 t.labels
  d : IntsAt w B A1 n1 t.dims
  x : IntsAt w B A2 n2 t.data

structure OwnT (w : World) (lo hi : Nat) (A0 : Option Addr) (n0 c0 : Nat) (A1 : Option Addr) (n1 c1 : Nat) (A2 : Option Addr) (n2 c2 : Nat) (t : Ten) : Prop where
  l : OwnI w lo hi A0 n0 c0 t.labels
  d : OwnI w lo hi A1 n1 c1 t.dims
  x : OwnI w lo hi A2 n2 c2 t.data
  ld : Apart A0 A1
  lx : Apart A0 A2
  dx : Apart A1 A2

section
variable {w w' : World} {B B' lo hi lo' hi' n0 c0 n1 c1 n2 c2 : Nat} {A0 A1 A2 : Option Addr} {t : Ten}
theorem TenAt.below (h : TenAt w B A0 n0 A1 n1 A2 n2 t) (hb : Below B' w w') (hB : B ≤ B') : TenAt w' B A0 n0 A1 n1 A2 n2 t := ⟨h.l.below hb hB, h.d.below hb hB, h.x.below hb hB⟩
theorem TenAt.mono (h : TenAt w B A0 n0 A1 n1 A2 n2 t) (hB : B ≤ B') : TenAt w B' A0 n0 A1 n1 A2 n2 t := ⟨h.l.mono hB, h.d.mono hB, h.x.mono hB⟩
theorem OwnT.tens (h : OwnT w lo hi A0 n0 c0 A1 n1 c1 A2 n2 c2 t) : TenAt w hi A0 n0 A1 n1 A2 n2 t := ⟨h.l.ints, h.d.ints, h.x.ints⟩
theorem OwnT.below (h : OwnT w lo hi A0 n0 c0 A1 n1 c1 A2 n2 c2 t) (hb : Below B w w') (hB : hi ≤ B) : OwnT w' lo hi A0 n0 c0 A1 n1 c1 A2 n2 c2 t :=
  ⟨h.l.below hb hB, h.d.below hb hB, h.x.below hb hB, h.ld, h.lx, h.dx⟩
theorem OwnT.mono (h : OwnT w lo hi A0 n0 c0 A1 n1 c1 A2 n2 c2 t) (hl : lo' ≤ lo) (hh : hi ≤ hi') : OwnT w lo' hi' A0 n0 c0 A1 n1 c1 A2 n2 c2 t :=
  ⟨h.l.mono hl hh, h.d.mono hl hh, h.x.mono hl hh, h.ld, h.lx, h.dx⟩
end

theorem OwnT.far {w : World} {lo hi n0 c0 n1 c1 n2 c2 g j : Nat} {A0 A1 A2 : Option Addr} {t : Ten} (h : OwnT w lo hi A0 n0 c0 A1 n1 c1 A2 n2 c2 t) (u : Value) (hg : g < lo) : OwnT (w.setCell ⟨g, j, none⟩ u) lo hi A0 n0 c0 A1 n1 c1 A2 n2 c2 t :=
  ⟨h.l.far u hg, h.d.far u hg, h.x.far u hg, h.ld, h.lx, h.dx⟩

theorem OwnT.old {w w' : World} {lo hi n0 c0 n1 c1 n2 c2 : Nat} {A0 A1 A2 : Option Addr} {t : Ten} (h : OwnT w lo hi A0 n0 c0 A1 n1 c1 A2 n2 c2 t) (hb : Below w.heap.size w w') : OwnT w' lo hi A0 n0 c0 A1 n1 c1 A2 n2 c2 t :=
  ⟨h.l.old hb, h.d.old hb, h.x.old hb, h.ld, h.lx, h.dx⟩
/-- The blocks of a tensor. -/
def inT (A0 A1 A2 : Option Addr) (k : Nat) : Prop := some k = blkOf A0 ∨ some k = blkOf A1 ∨ some k = blkOf A2
theorem OwnT.inT_lt {w : World} {lo hi n0 c0 n1 c1 n2 c2 : Nat} {A0 A1 A2 : Option Addr} {t : Ten} (h : OwnT w lo hi A0 n0 c0 A1 n1 c1 A2 n2 c2 t) {k : Nat} (hk : inT A0 A1 A2 k) : lo ≤ k ∧ k < hi ∧ k < w.heap.size := by
  rcases hk with hk | hk | hk
  · rcases A0 with _ | a
    · simp [blkOf] at hk
    · have := h.l.lt a rfl; simp [blkOf] at hk; omega
  · rcases A1 with _ | a
    · simp [blkOf] at hk
    · have := h.d.lt a rfl; simp [blkOf] at hk; omega
  · rcases A2 with _ | a
    · simp [blkOf] at hk
    · have := h.x.lt a rfl; simp [blkOf] at hk; omega

/-! ### What a call comes to -/

/-- It returns v; old memory is as it was. -/
def RetV (w : World) (v : Value) (e : Ending) (w' : World) : Prop := e = .returned v ∧ Below w.heap.size w w'
/-- It returns a slice of its own that reads xs. -/
def RetI (w : World) (xs : List Int) (e : Ending) (w' : World) : Prop :=
  ∃ A c, e = .returned (.slice A xs.length c) ∧ OwnI w' w.heap.size w'.heap.size A xs.length c xs ∧ Below w.heap.size w w'
/-- It returns a slice of its own that reads xs, and a bool. -/
def RetIB (w : World) (xs : List Int) (b : Bool) (e : Ending) (w' : World) : Prop :=
  ∃ A c, e = .returned (.tuple #[.slice A xs.length c, .bool b]) ∧ OwnI w' w.heap.size w'.heap.size A xs.length c xs ∧ Below w.heap.size w w'
/-- It returns a tensor of its own. -/
def RetT (w : World) (t : Ten) (e : Ending) (w' : World) : Prop :=
  ∃ A0 c0 A1 c1 A2 c2, e = .returned (.agg #[.slice A0 t.labels.length c0, .slice A1 t.dims.length c1, .slice A2 t.data.length c2]) ∧
    OwnT w' w.heap.size w'.heap.size A0 t.labels.length c0 A1 t.dims.length c1 A2 t.data.length c2 t ∧ Below w.heap.size w w'
/-- It returns a tensor of its own, and a bool. -/
def RetTB (w : World) (t : Ten) (b : Bool) (e : Ending) (w' : World) : Prop :=
  ∃ A0 c0 A1 c1 A2 c2, e = .returned (.tuple #[.agg #[.slice A0 t.labels.length c0, .slice A1 t.dims.length c1, .slice A2 t.data.length c2], .bool b]) ∧
    OwnT w' w.heap.size w'.heap.size A0 t.labels.length c0 A1 t.dims.length c1 A2 t.data.length c2 t ∧ Below w.heap.size w w'

theorem ret_int {k : IntKind} {a b : Int} (h : a = b) : Ending.returned (.int k a) = .returned (.int k b) := by rw [h]
theorem ret_bool {a b : Bool} (h : a = b) : Ending.returned (.bool a) = .returned (.bool b) := by rw [h]
theorem int_info : (Tryd.prog.info? 3).map (fun i => (i.zero, i.size, i.bytes)) = some (some (.int .i64 0), 1, 8) := by kernel_rfl
/-- The cells of 'make([]int, n)'. -/
def zeros (n : Nat) : Array Value := madeCells #[.int .i64 0] n
theorem zeros_size (n : Nat) : (zeros n).size = n := size_madeCells _ _
theorem zeros_list (n : Nat) : (zeros n).toList = (List.replicate n (0 : Int)).map (.int .i64) := by
  rw [List.map_replicate]; exact toList_madeCells_one _ _
theorem run_make_ints (n c : Nat) (hn : n ≤ c) (hc : c ≤ 1099511627776) (W : World) :
    (Instr.makeSlice 24 (.int .i64 (n : Int)) (.int .i64 (c : Int))).run Tryd.prog W = .ok (.slice (some ⟨W.heap.size, 0, none⟩) n c) (W.alloc (.cells (zeros c) 3)) := by
  obtain ⟨i, hi, hz0, hz1, hz2⟩ := info_parts int_info
  have hr := run_make (P := Tryd.prog) W 24 3 i (.int .i64 0) Tryd.underlying24 hi hz0 .i64 .i64 n c (by omega) (by omega) (by rw [hz2]; omega) (by omega)
  simp only [Int.toNat_natCast, hz1, Nat.mul_one] at hr
  exact hr
theorem OwnI.zeros_ {w : World} {lo : Nat} (n : Nat) (hlo : lo ≤ w.heap.size) (hm : n ≤ 1099511627776) : OwnI (w.alloc (.cells (zeros n) 3)) lo (w.heap.size + 1) (some ⟨w.heap.size, 0, none⟩) n n (List.replicate n 0) :=
  OwnI.of_made (zeros n) hlo (by unfold maxLen; omega) (zeros_size n) (zeros_list n)
theorem replicate_ints (n : Nat) : (madeCells (Value.int .i64 0).cells (n * 1)).toList = (List.replicate n (0 : Int)).map (.int .i64) := by
  rw [Nat.mul_one, List.map_replicate]; exact toList_madeCells_one _ _

end Go.Proofs.YtodlbhjnmdhjiaaDoor

/-
  Contracts of the laws' own helpers on slices of ints: sizes, copies, comparison, marking. No condition but bounds on lengths.
-/
namespace Go.Proofs.YtodlbhjnmdhjiaaDoor
open Go.RowKit

/-- What is left of a budget; -1 where it is used up. -/
def szI (left : Int) (n : Nat) : Int := if left - n < 0 then -1 else left - n
theorem szI_yes {left : Int} {n : Nat} (h : (n : Int) ≤ left) : szI left n = left - n := by unfold szI; rw [if_neg (by omega)]
theorem szI_no {left : Int} {n : Nat} (h : left < (n : Int)) : szI left n = -1 := by unfold szI; rw [if_pos (by omega)]

set_option maxHeartbeats 400000 in
theorem szIntS_any (A : Option Addr) (n c : Nat) (left : Int) (w : World) (h0 : 0 ≤ left) (h1 : left ≤ 1048576) (hn : n ≤ 9223372036854775807) :
    Calls Tryd.prog 10 #[.slice A n c, .int .i64 left] w fun e w' => e = .returned (.int .i64 (szI left n)) ∧ w = w' := by
  by_cases h : left - (n : Int) < 0
  · have hs := Lib.hid (szI_no (left := left) (n := n) (by omega))
    go_enter Tryd.func10, Tryd.ntmps10
    go_wp2
    go_ret
    exact ⟨by rw [hs.out]; rfl, rfl⟩
  · have hs := Lib.hid (szI_yes (left := left) (n := n) (by omega))
    go_enter Tryd.func10, Tryd.ntmps10
    go_wp2
    go_ret
    exact ⟨by rw [hs.out]; rfl, rfl⟩

set_option maxHeartbeats 400000 in
theorem toIntS_any (A : Option Addr) (n c : Nat) (xs : List Int) (w : World) (h : IntsAt w w.heap.size A n xs) (hn : n ≤ 1048576) :
    Calls Tryd.prog 17 #[.slice A n c] w (RetI w xs) := by
  have hlen := Lib.hid h.len
  have hmk := run_make_ints n n (Nat.le_refl _) (by omega)
  have hown := OwnI.zeros_ (w := w) (lo := w.heap.size) n (Nat.le_refl _) (by omega)
  have hb0 : Below w.heap.size w (w.alloc (.cells (zeros n) 3)) := (Below.refl _ _).alloc (Nat.le_refl _) _
  go_enter Tryd.func17, Tryd.ntmps17
  go_wp2_with fail
  generalize w.alloc (.cells (zeros n) 3) = w1 at *
  go_loopw [4] (fun i wr => ∃ k : Nat, k ≤ n ∧ i = .int .i64 k ∧ OwnI wr w.heap.size (w.heap.size + 1) (some ⟨w.heap.size, 0, none⟩) n n (xs.take k ++ List.replicate (n - k) 0) ∧ Below w.heap.size w wr) (fun i _ => n - (intOf i).toNat)
  case atStart => exact ⟨0, Nat.zero_le _, rfl, by simpa using hown, hb0⟩
  case round =>
    clear hmk hown hb0
    obtain ⟨k, hk, rfl, hown, hb⟩ := hrel
    by_cases hlt : k < n
    · obtain ⟨b, off, rfl, hbB, hc⟩ := (h.below hb (Nat.le_refl _)).at_ (by omega)
      have hck := hc k hlt
      have hcell := hown.cell hlt
      have hfr := hown.frozen k
      have hst := hown.set k (xs.getD k 0)
      have hb' := hb.setCell (p := ⟨w.heap.size, k, none⟩) (Nat.le_refl _) (.int .i64 (xs.getD k 0))
      obtain ⟨x, hx⟩ : ∃ x, x = xs.getD k 0 := ⟨_, rfl⟩
      rw [← hx] at hck hst hb'
      have HX := Lib.hid hx
      clear hc hown hb hx
      go_wp2
      refine ⟨⟨k + 1, by omega, by go_num, ?_, hb'⟩, by simp [intOf]; omega⟩
      have e := Plain.set_take_rep xs n k 0 hlen.out hlt
      rw [← HX.out] at e
      rw [← e]
      exact hst.1
    · go_wp2
      go_ret
      obtain rfl : k = n := by omega
      have e : xs.take k ++ List.replicate (k - k) 0 = xs := by rw [Nat.sub_self, List.replicate_zero, List.append_nil, List.take_of_length_le (by rw [hlen.out]; exact Nat.le_refl _)]
      rw [e] at hown
      obtain rfl := hlen.out
      exact ⟨_, _, rfl, hown.top, hb⟩

/-- Two slices that read the same compare equal. -/
theorem eqIntS_same (A : Option Addr) (n c : Nat) (A' : Option Addr) (n' c' : Nat) (xs : List Int) (w : World) (h : IntsAt w w.heap.size A n xs) (h' : IntsAt w w.heap.size A' n' xs) (hn : n ≤ 1099511627776) :
    Calls Tryd.prog 24 #[.slice A n c, .slice A' n' c'] w (RetV w (.bool true)) := by
  obtain rfl : n = n' := h.len.symm.trans h'.len
  go_enter Tryd.func24, Tryd.ntmps24
  go_wp2
  go_loopw [5] (fun i wr => ∃ k : Nat, k ≤ n ∧ i = .int .i64 k ∧ Below w.heap.size w wr) (fun i _ => n - (intOf i).toNat)
  case atStart => exact ⟨0, Nat.zero_le _, rfl, Below.refl _ _⟩
  case round =>
    obtain ⟨k, hk, rfl, hb⟩ := hrel
    by_cases hlt : k < n
    · obtain ⟨b, off, rfl, hbB, hc⟩ := (h.below hb (Nat.le_refl _)).at_ (by omega)
      obtain ⟨b', off', rfl, hbB', hc'⟩ := (h'.below hb (Nat.le_refl _)).at_ (by omega)
      have hck := hc k hlt
      have hck' := hc' k hlt
      have hi : (k : Int) < (n : Int) := by omega
      generalize xs.getD k 0 = x at hck hck'
      clear hc hc'
      go_wp2
      go_quiet (fail)
      go_wp2
      refine ⟨⟨k + 1, by omega, by go_num, below_drewN hb _⟩, by simp [intOf]; omega⟩
    · go_wp2
      go_ret
      exact ⟨rfl, hb⟩

/-- The numbers k, k+1, .. -/
def upto (k : Int) (n : Nat) : List Int := (List.range n).map fun (i : Nat) => k + (i : Int)
theorem upto_len (k : Int) (n : Nat) : (upto k n).length = n := by simp [upto]
theorem upto_get (k : Int) (n j : Nat) (h : j < n) : (upto k n).getD j 0 = k + (j : Int) := by simp [upto, h]

/-! ### Tensors -/

theorem OwnT.grownBelow {w w' : World} {B lo hi n0 c0 n1 c1 n2 c2 : Nat} {A0 A1 A2 : Option Addr} {t : Ten} (h : OwnT w lo hi A0 n0 c0 A1 n1 c1 A2 n2 c2 t) (hb : Below B w w') (hB : hi ≤ B) : OwnT w' lo hi A0 n0 c0 A1 n1 c1 A2 n2 c2 t := h.below hb hB

def szT (left : Int) (n0 n1 n2 : Nat) : Int := if (n0 : Int) + n1 + n2 ≤ left then left - n0 - n1 - n2 else -1

set_option maxHeartbeats 400000 in
theorem szTensor_any (A0 : Option Addr) (n0 c0 : Nat) (A1 : Option Addr) (n1 c1 : Nat) (A2 : Option Addr) (n2 c2 : Nat) (left : Int) (w : World) (h0 : 0 ≤ left) (h1 : left ≤ 1048576)
    (k0 : n0 ≤ 9223372036854775807) (k1 : n1 ≤ 9223372036854775807) (k2 : n2 ≤ 9223372036854775807) :
    Calls Tryd.prog 4 #[.agg #[.slice A0 n0 c0, .slice A1 n1 c1, .slice A2 n2 c2], .int .i64 left] w (RetV w (.int .i64 (szT left n0 n1 n2))) := by
  by_cases a0 : (n0 : Int) ≤ left
  · by_cases a1 : (n0 : Int) + n1 ≤ left
    · by_cases a2 : (n0 : Int) + n1 + n2 ≤ left
      · have e : szT left n0 n1 n2 = left - n0 - n1 - n2 := by unfold szT; rw [if_pos (by omega)]
        rw [e]
        clear e
        go_enter Tryd.func4, Tryd.ntmps4
        go_wp2_with (go_at_call 10; refine (szIntS_any _ _ _ _ _ (by omega) (by omega) (by omega)).mono ?_; rintro e w' ⟨rfl, rfl⟩; rw [szI_yes (by omega)])
        go_ret
        exact ⟨rfl, (Below.refl _ _).alloc (Nat.le_refl _) _⟩
      · have e : szT left n0 n1 n2 = -1 := by unfold szT; rw [if_neg (by omega)]
        rw [e]
        clear e
        go_enter Tryd.func4, Tryd.ntmps4
        go_wp2_with (go_at_call 10; refine (szIntS_any _ _ _ _ _ (by omega) (by omega) (by omega)).mono ?_; rintro e w' ⟨rfl, rfl⟩; first | rw [szI_yes (by omega)] | rw [szI_no (by omega)])
        go_ret
        exact ⟨rfl, (Below.refl _ _).alloc (Nat.le_refl _) _⟩
    · have e : szT left n0 n1 n2 = -1 := by unfold szT; rw [if_neg (by omega)]
      rw [e]
      clear e
      go_enter Tryd.func4, Tryd.ntmps4
      go_wp2_with (go_at_call 10; refine (szIntS_any _ _ _ _ _ (by omega) (by omega) (by omega)).mono ?_; rintro e w' ⟨rfl, rfl⟩; first | rw [szI_yes (by omega)] | rw [szI_no (by omega)])
      go_ret
      exact ⟨rfl, (Below.refl _ _).alloc (Nat.le_refl _) _⟩
  · have e : szT left n0 n1 n2 = -1 := by unfold szT; rw [if_neg (by omega)]
    rw [e]
    clear e
    go_enter Tryd.func4, Tryd.ntmps4
    go_wp2_with (go_at_call 10; refine (szIntS_any _ _ _ _ _ (by omega) (by omega) (by omega)).mono ?_; rintro e w' ⟨rfl, rfl⟩; first | rw [szI_yes (by omega)] | rw [szI_no (by omega)])
    go_ret
    exact ⟨rfl, (Below.refl _ _).alloc (Nat.le_refl _) _⟩

end Go.Proofs.YtodlbhjnmdhjiaaDoor

/-
  Contracts of the laws' own helpers on tensors: copy, comparison, marking. No condition but bounds on lengths.
-/
namespace Go.Proofs.YtodlbhjnmdhjiaaDoor
open Go.RowKit

set_option maxHeartbeats 800000 in
theorem toTensor_any (A0 : Option Addr) (n0 c0 : Nat) (A1 : Option Addr) (n1 c1 : Nat) (A2 : Option Addr) (n2 c2 : Nat) (t : Ten) (w : World) (h : TenAt w w.heap.size A0 n0 A1 n1 A2 n2 t)
    (k0 : n0 ≤ 1048576) (k1 : n1 ≤ 1048576) (k2 : n2 ≤ 1048576) :
    Calls Tryd.prog 7 #[.agg #[.slice A0 n0 c0, .slice A1 n1 c1, .slice A2 n2 c2]] w (RetT w t) := by
  go_enter Tryd.func7, Tryd.ntmps7
  go_wp2_with fail
  have hb0 : Below w.heap.size w (((w.alloc (.cells #[.slice A0 n0 c0, .slice A1 n1 c1, .slice A2 n2 c2] 26)).alloc (.cells #[.slice none 0 0, .slice none 0 0, .slice none 0 0] 31)).alloc (.cells #[.slice none 0 0, .slice none 0 0, .slice none 0 0] 31)) :=
    (((Below.refl _ _).alloc (Nat.le_refl _) _).alloc (by simp) _).alloc (by simp; omega) _
  refine (toIntS_any _ _ _ t.labels _ ((h.l.below hb0 (Nat.le_refl _)).mono (by simp; omega)) k0).mono ?_
  rintro e w1 ⟨B0, d0, rfl, own0, hb1⟩
  have hz1 : w.heap.size + 3 ≤ w1.heap.size := by have := hb1.size; simpa using this
  have hB1 : Below w.heap.size w w1 := hb0.trans (hb1.mono (by simp; omega))
  obtain ⟨hc1, hf1⟩ := bcell (hb1.mono (B' := w.heap.size + 3) (by simp))
  replace own0 := own0.mono (lo' := w.heap.size + 3) (by simp) (Nat.le_refl _)
  clear hb1 hb0
  go_wp2_with fail
  have hB1' := hB1.setCell (p := ⟨w.heap.size + 1 + 1, 0, none⟩) (by simp; omega) (.slice B0 t.labels.length d0)
  have hs1 : (w1.setCell ⟨w.heap.size + 1 + 1, 0, none⟩ (.slice B0 t.labels.length d0)).heap.size = w1.heap.size := by simp [World.setCell]
  refine (toIntS_any _ _ _ t.dims _ ((h.d.below hB1' (Nat.le_refl _)).mono (by rw [hs1]; omega)) k1).mono ?_
  rintro e w2 ⟨B1, d1, rfl, own1, hb2⟩
  rw [hs1] at own1 hb2
  have hz2 : w1.heap.size ≤ w2.heap.size := by have := hb2.size; rwa [hs1] at this
  have hB2 : Below w.heap.size w w2 := hB1'.trans (hb2.mono (by omega))
  replace own0 := (own0.far (g := w.heap.size + 1 + 1) (j := 0) _ (by omega)).below hb2 (Nat.le_refl _)
  obtain ⟨hc2, hf2⟩ := bcell (hb2.mono (B' := w.heap.size + 3) (by omega))
  clear hb2 hB1 hB1' hs1
  go_wp2_with fail
  have hB2' := hB2.setCell (p := ⟨w.heap.size + 1 + 1, 1, none⟩) (by simp; omega) (.slice B1 t.dims.length d1)
  have hs2 : (w2.setCell ⟨w.heap.size + 1 + 1, 1, none⟩ (.slice B1 t.dims.length d1)).heap.size = w2.heap.size := by simp [World.setCell]
  refine (toIntS_any _ _ _ t.data _ ((h.x.below hB2' (Nat.le_refl _)).mono (by rw [hs2]; omega)) k2).mono ?_
  rintro e w3 ⟨B2, d2, rfl, own2, hb3⟩
  rw [hs2] at own2 hb3
  have hz3 : w2.heap.size ≤ w3.heap.size := by have := hb3.size; rwa [hs2] at this
  have hB3 : Below w.heap.size w w3 := hB2'.trans (hb3.mono (by omega))
  replace own0 := (own0.far (g := w.heap.size + 1 + 1) (j := 1) _ (by omega)).below hb3 (by omega)
  replace own1 := (own1.far (g := w.heap.size + 1 + 1) (j := 1) _ (by omega)).below hb3 (Nat.le_refl _)
  obtain ⟨hc3, hf3⟩ := bcell (hb3.mono (B' := w.heap.size + 3) (by omega))
  clear hb3 hB2 hB2' hs2
  go_wp2_with fail
  refine bodyPost_ret (v := .agg #[.slice B0 t.labels.length d0, .slice B1 t.dims.length d1, .slice B2 t.data.length d2]) (by simp [results, Tryd.results7, go_sem, hc3, hc2, hc1]) rfl ?_
  have hsz : ((((w3.setCell ⟨w.heap.size + 1 + 1, 2, none⟩ (.slice B2 t.data.length d2)).setCell ⟨w.heap.size + 1, 0, none⟩ (.slice B0 t.labels.length d0)).setCell ⟨w.heap.size + 1, 1, none⟩ (.slice B1 t.dims.length d1)).setCell ⟨w.heap.size + 1, 2, none⟩ (.slice B2 t.data.length d2)).heap.size = w3.heap.size := by simp only [size_setCell]
  have own : OwnT w3 (w.heap.size + 3) w3.heap.size B0 t.labels.length d0 B1 t.dims.length d1 B2 t.data.length d2 t :=
    ⟨own0.mono (Nat.le_refl _) (by omega), own1.mono (by omega) (by omega), own2.mono (by omega) (Nat.le_refl _), own0.apart own1 (Nat.le_refl _), own0.apart own2 (by omega), own1.apart own2 (Nat.le_refl _)⟩
  refine ⟨B0, d0, B1, d1, B2, d2, rfl, ?_, ?_⟩
  · rw [hsz]
    exact ((((own.far _ (by omega)).far _ (by omega)).far _ (by omega)).far _ (by omega)).mono (by omega) (Nat.le_refl _)
  · exact (((hB3.setCell (p := ⟨w.heap.size + 1 + 1, 2, none⟩) (by simp; omega) _).setCell (p := ⟨w.heap.size + 1, 0, none⟩) (by simp) _).setCell (p := ⟨w.heap.size + 1, 1, none⟩) (by simp) _).setCell (p := ⟨w.heap.size + 1, 2, none⟩) (by simp) _

/-- Two tensors that read the same compare equal. -/
theorem eqTensor_same (A0 : Option Addr) (n0 c0 : Nat) (A1 : Option Addr) (n1 c1 : Nat) (A2 : Option Addr) (n2 c2 : Nat) (A0' : Option Addr) (n0' c0' : Nat) (A1' : Option Addr) (n1' c1' : Nat) (A2' : Option Addr) (n2' c2' : Nat) (t : Ten) (w : World)
    (h : TenAt w w.heap.size A0 n0 A1 n1 A2 n2 t) (h' : TenAt w w.heap.size A0' n0' A1' n1' A2' n2' t) (k0 : n0 ≤ 1099511627776) (k1 : n1 ≤ 1099511627776) (k2 : n2 ≤ 1099511627776) :
    Calls Tryd.prog 9 #[.agg #[.slice A0 n0 c0, .slice A1 n1 c1, .slice A2 n2 c2], .agg #[.slice A0' n0' c0', .slice A1' n1' c1', .slice A2' n2' c2']] w (RetV w (.bool true)) := by
  go_enter Tryd.func9, Tryd.ntmps9
  go_wp2_with fail
  have hb0 : Below w.heap.size w ((w.alloc (.cells #[.slice A0 n0 c0, .slice A1 n1 c1, .slice A2 n2 c2] 31)).alloc (.cells #[.slice A0' n0' c0', .slice A1' n1' c1', .slice A2' n2' c2'] 31)) :=
    ((Below.refl _ _).alloc (Nat.le_refl _) _).alloc (by simp) _
  refine (eqIntS_same _ _ _ _ _ _ t.labels _ ((h.l.below hb0 (Nat.le_refl _)).mono (by simp; omega)) ((h'.l.below hb0 (Nat.le_refl _)).mono (by simp; omega)) k0).mono ?_
  rintro e w1 ⟨rfl, hb1⟩
  have hz1 : w.heap.size + 2 ≤ w1.heap.size := by have := hb1.size; simpa using this
  have hB1 : Below w.heap.size w w1 := hb0.trans (hb1.mono (by simp; omega))
  obtain ⟨hc1, hf1⟩ := bcell (hb1.mono (B' := w.heap.size + 2) (by simp))
  clear hb1 hb0
  go_wp2_with fail
  refine (eqIntS_same _ _ _ _ _ _ t.dims _ ((h.d.below hB1 (Nat.le_refl _)).mono (by omega)) ((h'.d.below hB1 (Nat.le_refl _)).mono (by omega)) k1).mono ?_
  rintro e w2 ⟨rfl, hb2⟩
  have hz2 : w1.heap.size ≤ w2.heap.size := hb2.size
  have hB2 : Below w.heap.size w w2 := hB1.trans (hb2.mono (by omega))
  obtain ⟨hc2, hf2⟩ := bcell (hb2.mono (B' := w.heap.size + 2) (by omega))
  clear hb2
  go_wp2_with fail
  refine (eqIntS_same _ _ _ _ _ _ t.data _ ((h.x.below hB2 (Nat.le_refl _)).mono (by omega)) ((h'.x.below hB2 (Nat.le_refl _)).mono (by omega)) k2).mono ?_
  rintro e w3 ⟨rfl, hb3⟩
  have hB3 : Below w.heap.size w w3 := hB2.trans (hb3.mono (by omega))
  go_wp2_with fail
  go_ret
  exact ⟨rfl, hB3⟩

/-- The marks that a tensor bears. -/
def uptoT (k : Int) (n0 n1 n2 : Nat) : Ten := ⟨upto k n0, upto (k + n0) n1, upto (k + n0 + n1) n2⟩

theorem toRing_any (k p n : Int) (w : World) : Calls Tryd.prog 6 #[.agg #[.int .i64 k, .int .i64 p, .int .i64 n]] w (RetV w (.agg #[.int .i64 k, .int .i64 p, .int .i64 n])) := by
  go_enter Tryd.func6, Tryd.ntmps6
  go_wp2_with fail
  exact bodyPost_ret (v := .agg #[.int .i64 k, .int .i64 p, .int .i64 n]) (by simp [results, Tryd.results6, go_sem]) rfl ⟨rfl, (((Below.refl _ _).alloc (Nat.le_refl _) _).alloc (by simp) _).alloc (by simp; omega) _⟩

end Go.Proofs.YtodlbhjnmdhjiaaDoor

/-
  The arguments of a law, opened: a slice of ints, a tensor, a ring. No condition.
-/
namespace Go.Proofs.YtodlbhjnmdhjiaaDoor
open Go.ChangeShapes Go.WideShapes Go.ChangeAt Go.RowKit

theorem own : ownKnob Tryd.prog.godebug = none := by kernel_rfl
theorem laidOut : laidOutB Tryd.prog = true := by kernel_rfl

def I64 (x : Int) : Prop := -9223372036854775808 ≤ x ∧ x ≤ 9223372036854775807
theorem I64.of_wf {x : Int} (h : (Lit.int .i64 x).wf = true) : I64 x := by
  have h' : (decide ((-9223372036854775808 : Int) ≤ x) && decide (x ≤ (9223372036854775807 : Int))) = true := h
  simpa [I64] using h'

/-- What is known of a slice of ints that came in. -/
structure SlIn (w : World) (A : Option Addr) (n c : Nat) (xs : List Int) : Prop where
  at_ : IntsAt w w.heap.size A n xs
  len : n ≤ 9223372036854775807
  cap : n ≤ c
  wf : ∀ x ∈ xs, I64 x
structure TnIn (w : World) (A0 : Option Addr) (n0 c0 : Nat) (A1 : Option Addr) (n1 c1 : Nat) (A2 : Option Addr) (n2 c2 : Nat) (t : Ten) : Prop where
  l : SlIn w A0 n0 c0 t.labels
  d : SlIn w A1 n1 c1 t.dims
  x : SlIn w A2 n2 c2 t.data
theorem TnIn.ten {w : World} {A0 : Option Addr} {n0 c0 : Nat} {A1 : Option Addr} {n1 c1 : Nat} {A2 : Option Addr} {n2 c2 : Nat} {t : Ten} (h : TnIn w A0 n0 c0 A1 n1 c1 A2 n2 c2 t) : TenAt w w.heap.size A0 n0 A1 n1 A2 n2 t := ⟨h.l.at_, h.d.at_, h.x.at_⟩

theorem IntsAt.of_row {w : World} {a : Addr} {len cap : Nat} {zs : List Int} (hl : len ≤ cap) (hz : zs.length = cap) (hc : ∀ i, i < zs.length → w.cell? (a.add i) = some (.int .i64 (zs.getD i 0))) : IntsAt w w.heap.size (some a) len (zs.take len) := by
  refine ⟨by simp; omega, fun hn => ?_⟩
  obtain ⟨b, off, spot⟩ := a
  have h0 := hc 0 (by omega)
  have hs : spot = none := by simpa [Addr.add] using World.cell?_spot h0
  subst hs
  have hb := World.block_lt_of_cell? w _ h0
  refine ⟨b, off, rfl, by simpa [Addr.add] using hb, fun j hj => ?_⟩
  have h := hc j (by omega)
  have e : (⟨b, off, none⟩ : Addr).add j = ⟨b, off + j, none⟩ := by unfold Addr.add; split <;> simp_all
  rw [e] at h
  rw [h]
  simp [hj]

set_option maxRecDepth 100000
section
variable {H : Type} {enc : TypeId × Value → H} {w : World} {base : Nat} {held : Bool} {r : Reach}
theorem open_sl_cells {fuel : Nat} {v : Value} {x : DataW H × List MemPlace} (h : DataW.trod enc Tryd.prog w base (fun _ => true) held fuel 24 [v] = some x) :
    ∃ A n c xs, v = .slice A n c ∧ SlIn w A n c xs := by
  rcases open_ints Tryd.underlying24 Tryd.underlying3 (by kernel_rfl) h with ⟨hcs, _⟩ | ⟨a, len, cap, zs, hcs, _, hl, hm, hz, _, hcell, hwz⟩
  · obtain rfl : v = .slice none 0 0 := by simpa using hcs
    exact ⟨none, 0, 0, [], rfl, IntsAt.nil, by omega, by omega, fun x hx => by cases hx⟩
  · obtain rfl : v = .slice (some a) len cap := by simpa using hcs
    have hz' : zs.length = cap := by simpa using hz
    exact ⟨some a, len, cap, zs.take len, rfl, IntsAt.of_row hl hz' hcell, by unfold maxLen at hm; omega, hl, fun x hx => I64.of_wf (hwz x (List.mem_of_mem_take hx))⟩
theorem open_sl {b0 : Nat} {v : Value} {d : DataW H} {p : List MemPlace} (hv : Value.okWide Tryd.prog w r b0 24 v) (h : DataW.Trod enc Tryd.prog w base (fun _ => true) held 24 v d p) :
    ∃ A n c xs, v = .slice A n c ∧ SlIn w A n c xs := by
  obtain ⟨A, n, c, rfl⟩ := okWide_slice Tryd.underlying24 hv
  obtain ⟨fuel, hf⟩ := h
  exact open_sl_cells (v := .slice A n c) hf
theorem open_tensor {b0 : Nat} {v : Value} {d : DataW H} {p : List MemPlace} (hv : Value.okWide Tryd.prog w r b0 26 v) (h : DataW.Trod enc Tryd.prog w base (fun _ => true) held 26 v d p) :
    ∃ A0 n0 c0 A1 n1 c1 A2 n2 c2 t, v = .agg #[.slice A0 n0 c0, .slice A1 n1 c1, .slice A2 n2 c2] ∧ TnIn w A0 n0 c0 A1 n1 c1 A2 n2 c2 t := by
  obtain ⟨v0, v1, v2, y0, y1, y2, m, rfl, _, _, h0, h1, h2⟩ := Joins.open_agg3 Tryd.underlying26 (by kernel_rfl) (by kernel_rfl) hv h
  obtain ⟨A0, n0, c0, xs0, rfl, s0⟩ := open_sl_cells h0
  obtain ⟨A1, n1, c1, xs1, rfl, s1⟩ := open_sl_cells h1
  obtain ⟨A2, n2, c2, xs2, rfl, s2⟩ := open_sl_cells h2
  exact ⟨A0, n0, c0, A1, n1, c1, A2, n2, c2, ⟨xs0, xs1, xs2⟩, rfl, s0, s1, s2⟩
theorem open_i64 {b0 : Nat} {v : Value} {d : DataW H} {p : List MemPlace} (hv : Value.okWide Tryd.prog w r b0 3 v) (h : DataW.Trod enc Tryd.prog w base (fun _ => true) held 3 v d p) : ∃ x, v = .int .i64 x ∧ I64 x := by
  obtain ⟨x, rfl, _, _, wx⟩ := open_int Tryd.underlying3 hv h
  exact ⟨x, rfl, I64.of_wf wx⟩
theorem open_ring {b0 : Nat} {v : Value} {d : DataW H} {p : List MemPlace} (hv : Value.okWide Tryd.prog w r b0 23 v) (h : DataW.Trod enc Tryd.prog w base (fun _ => true) held 23 v d p) :
    ∃ k p n, v = .agg #[.int .i64 k, .int .i64 p, .int .i64 n] ∧ I64 k ∧ I64 p ∧ I64 n := by
  obtain ⟨v0, v1, v2, y0, y1, y2, m, rfl, _, _, h0, h1, h2⟩ := Joins.open_agg3 Tryd.underlying23 (by kernel_rfl) (by kernel_rfl) hv h
  obtain ⟨a, e0, _, w0⟩ := DataW.trod_int Tryd.underlying3 h0
  obtain ⟨b, e1, _, w1⟩ := DataW.trod_int Tryd.underlying3 h1
  obtain ⟨c, e2, _, w2⟩ := DataW.trod_int Tryd.underlying3 h2
  simp at e0 e1 e2
  subst e0 e1 e2
  exact ⟨a, b, c, rfl, I64.of_wf w0, I64.of_wf w1, I64.of_wf w2⟩
end

end Go.Proofs.YtodlbhjnmdhjiaaDoor

/-
  What a law's proof carries from statement to statement: steps that leave old memory alone, arguments, variables that hold copies and results. No condition.
-/
namespace Go.Proofs.YtodlbhjnmdhjiaaDoor
open Go.RowKit

/-- Nothing that was there has turned. -/
def Step (W W' : World) : Prop := Below W.heap.size W W'
section
variable {w W W' W'' : World} {B lo hi n c : Nat} {A : Option Addr} {xs : List Int}
theorem Step.alloc (W : World) (o : Obj) : Step W (W.alloc o) := (Below.refl _ _).alloc (Nat.le_refl _) _
theorem Step.drew (W : World) : Step W W.drew := (Below.refl _ _).drew
theorem Step.trans (h : Step W W') (h' : Step W' W'') : Step W W'' := Below.trans h (Below.mono h' (Below.size h))
theorem Step.size (h : Step W W') : W.heap.size ≤ W'.heap.size := Below.size h
theorem cell_step {a : Addr} {v : Value} (st : Step W W') (m : W.cell? a = some v) : W'.cell? a = some v := (Below.cell st (World.block_lt_of_cell? W a m)).trans m
theorem IntsAt.step (st : Step W W') (h : IntsAt W B A n xs) : IntsAt W' B A n xs :=
  ⟨h.1, fun hn => by
    obtain ⟨b, off, e, hlt, hc⟩ := h.2 hn
    exact ⟨b, off, e, hlt, fun j hj => cell_step st (hc j hj)⟩⟩
theorem IntsAt.top (h : IntsAt W B A n xs) : IntsAt W W.heap.size A n xs :=
  ⟨h.1, fun hn => by
    obtain ⟨b, off, e, hlt, hc⟩ := h.2 hn
    exact ⟨b, off, e, World.block_lt_of_cell? W _ (hc 0 hn), hc⟩⟩
theorem OwnI.step (st : Step W W') (h : OwnI W lo hi A n c xs) : OwnI W' lo hi A n c xs := h.old st
theorem Below.step (st : Step W W') (h : Below w.heap.size w W) : Below w.heap.size w W' := h.trans (Below.mono st h.size)
variable {n0 c0 n1 c1 n2 c2 : Nat} {A0 A1 A2 : Option Addr} {t : Ten}
theorem TenAt.step (st : Step W W') (h : TenAt W B A0 n0 A1 n1 A2 n2 t) : TenAt W' B A0 n0 A1 n1 A2 n2 t := ⟨h.l.step st, h.d.step st, h.x.step st⟩
theorem TenAt.top (h : TenAt W B A0 n0 A1 n1 A2 n2 t) : TenAt W W.heap.size A0 n0 A1 n1 A2 n2 t := ⟨h.l.top, h.d.top, h.x.top⟩
theorem OwnT.step (st : Step W W') (h : OwnT W lo hi A0 n0 c0 A1 n1 c1 A2 n2 c2 t) : OwnT W' lo hi A0 n0 c0 A1 n1 c1 A2 n2 c2 t := h.old st
end

/-! ### What a contract is given: a slice, a tensor that may be read -/

/-- A slice of ints that may be read. -/
structure SlOk (W : World) (A : Option Addr) (n c : Nat) (xs : List Int) : Prop where
  at_ : IntsAt W W.heap.size A n xs
  len : n ≤ 1099511627776
  cap : n ≤ c
  wf : ∀ x ∈ xs, I64 x
structure TnOk (W : World) (A0 : Option Addr) (n0 c0 : Nat) (A1 : Option Addr) (n1 c1 : Nat) (A2 : Option Addr) (n2 c2 : Nat) (t : Ten) : Prop where
  l : SlOk W A0 n0 c0 t.labels
  d : SlOk W A1 n1 c1 t.dims
  x : SlOk W A2 n2 c2 t.data
section
variable {w W W' : World} {lo hi n c : Nat} {A : Option Addr} {xs : List Int} {n0 c0 n1 c1 n2 c2 : Nat} {A0 A1 A2 : Option Addr} {t : Ten}
theorem SlOk.step (st : Step W W') (h : SlOk W A n c xs) : SlOk W' A n c xs := ⟨(h.at_.step st).mono st.size, h.len, h.cap, h.wf⟩
theorem TnOk.step (st : Step W W') (h : TnOk W A0 n0 c0 A1 n1 c1 A2 n2 c2 t) : TnOk W' A0 n0 c0 A1 n1 c1 A2 n2 c2 t := ⟨h.l.step st, h.d.step st, h.x.step st⟩
theorem OwnI.ok (h : OwnI W lo hi A n c xs) (hn : n ≤ 1099511627776) (hw : ∀ x ∈ xs, I64 x) : SlOk W A n c xs := ⟨h.ints.top, hn, h.cap, hw⟩
end

/-! ### Sizes and ranges of what came in -/

structure SlSz (n : Nat) (xs : List Int) : Prop where
  len : xs.length ≤ n
  wf : ∀ x ∈ xs, I64 x
structure TnSz (n : Nat) (t : Ten) : Prop where
  l : SlSz n t.labels
  d : SlSz n t.dims
  x : SlSz n t.data
section
variable {w W W' : World} {lo hi n c m : Nat} {A : Option Addr} {xs : List Int} {n0 c0 n1 c1 n2 c2 : Nat} {A0 A1 A2 : Option Addr} {t : Ten}
theorem SlIn.sz (h : SlIn w A n c xs) (hn : n ≤ m) : SlSz m xs := ⟨by rw [h.at_.len]; exact hn, h.wf⟩
theorem TnIn.sz (h : TnIn w A0 n0 c0 A1 n1 c1 A2 n2 c2 t) (h0 : n0 ≤ m) (h1 : n1 ≤ m) (h2 : n2 ≤ m) : TnSz m t := ⟨h.l.sz h0, h.d.sz h1, h.x.sz h2⟩
theorem OwnI.okz (h : OwnI W lo hi A n c xs) (hs : SlSz m xs) (hm : m ≤ 1099511627776) : SlOk W A n c xs := ⟨h.ints.top, by have := hs.len; have := h.len; omega, h.cap, hs.wf⟩
theorem OwnT.okz (h : OwnT W lo hi A0 n0 c0 A1 n1 c1 A2 n2 c2 t) (hs : TnSz m t) (hm : m ≤ 1099511627776) : TnOk W A0 n0 c0 A1 n1 c1 A2 n2 c2 t := ⟨h.l.okz hs.l hm, h.d.okz hs.d hm, h.x.okz hs.x hm⟩
end

/-! ### Behind a mark -/
section
variable {w W W' : World} {S : Nat → Prop} {lo hi lo' hi' n c B : Nat} {A : Option Addr} {xs : List Int} {n0 c0 n1 c1 n2 c2 : Nat} {A0 A1 A2 : Option Addr} {t : Ten}
theorem cell_only {b o : Nat} {v : Value} (ho : Only S W W') (hS : ∀ k, S k → lo ≤ k ∧ k < hi) (hb : b < lo ∨ hi ≤ b) (m : W.cell? ⟨b, o, none⟩ = some v) : W'.cell? ⟨b, o, none⟩ = some v :=
  ((ho.cells (b := b) (World.block_lt_of_cell? W _ m) (fun x => by have := hS b x; omega)).1 o).trans m
theorem IntsAt.apart (ho : Only S W W') (hS : ∀ k, S k → lo ≤ k ∧ k < hi) (hB : B ≤ lo) (_hW : B ≤ W.heap.size) (h : IntsAt W B A n xs) : IntsAt W' B A n xs :=
  ⟨h.1, fun h0 => by
    obtain ⟨b, off, e, hlt, hc⟩ := h.2 h0
    exact ⟨b, off, e, hlt, fun j hj => cell_only ho hS (.inl (by omega)) (hc j hj)⟩⟩
theorem TenAt.apart (ho : Only S W W') (hS : ∀ k, S k → lo ≤ k ∧ k < hi) (hB : B ≤ lo) (hW : B ≤ W.heap.size) (h : TenAt W B A0 n0 A1 n1 A2 n2 t) : TenAt W' B A0 n0 A1 n1 A2 n2 t :=
  ⟨h.l.apart ho hS hB hW, h.d.apart ho hS hB hW, h.x.apart ho hS hB hW⟩
theorem OwnI.away (ho : Only S W W') (hS : ∀ k, S k → lo ≤ k ∧ k < hi) (hd : hi' ≤ lo ∨ hi ≤ lo') (h : OwnI W lo' hi' A n c xs) : OwnI W' lo' hi' A n c xs :=
  h.only ho (fun a e x => by have := hS _ x; have := h.lt a e; omega)
theorem OwnT.away (ho : Only S W W') (hS : ∀ k, S k → lo ≤ k ∧ k < hi) (hd : hi' ≤ lo ∨ hi ≤ lo') (h : OwnT W lo' hi' A0 n0 c0 A1 n1 c1 A2 n2 c2 t) : OwnT W' lo' hi' A0 n0 c0 A1 n1 c1 A2 n2 c2 t :=
  ⟨h.l.away ho hS hd, h.d.away ho hS hd, h.x.away ho hS hd, h.ld, h.lx, h.dx⟩
theorem Below.away (ho : Only S W W') (hS : ∀ k, S k → lo ≤ k ∧ k < hi) (hB : w.heap.size ≤ lo) (h : Below w.heap.size w W) : Below w.heap.size w W' := h.trans (ho.below h.size (fun k x => by have := hS k x; omega))
theorem OwnT.blks (h : OwnT W lo hi A0 n0 c0 A1 n1 c1 A2 n2 c2 t) : ∀ k, inT A0 A1 A2 k → lo ≤ k ∧ k < hi := fun _ hk => ⟨(h.inT_lt hk).1, (h.inT_lt hk).2.1⟩
theorem OwnI.blks (h : OwnI W lo hi A n c xs) : ∀ k, some k = blkOf A → lo ≤ k ∧ k < hi := by
  intro k hk
  rcases A with _ | a
  · simp [blkOf] at hk
  · have := h.lt a rfl; simp [blkOf] at hk; omega
end

/-! ### A variable that holds a tensor of the call's own -/

structure VarT (W0 W : World) (lo hi b : Nat) (A0 : Option Addr) (c0 : Nat) (A1 : Option Addr) (c1 : Nat) (A2 : Option Addr) (c2 : Nat) (t : Ten) : Prop where
  b0 : W.cell? ⟨b, 0, none⟩ = some (.slice A0 t.labels.length c0)
  b1 : W.cell? ⟨b, 1, none⟩ = some (.slice A1 t.dims.length c1)
  b2 : W.cell? ⟨b, 2, none⟩ = some (.slice A2 t.data.length c2)
  own : OwnT W lo hi A0 t.labels.length c0 A1 t.dims.length c1 A2 t.data.length c2 t
  st : Step W0 W
  lo0 : W0.heap.size ≤ lo
  lohi : lo ≤ hi
  hi1 : hi ≤ W.heap.size
  bl : W0.heap.size ≤ b
  bh : b < W.heap.size
  off : b < lo ∨ hi ≤ b
section
variable {W0 W : World} {lo hi b : Nat} {A0 : Option Addr} {c0 : Nat} {A1 : Option Addr} {c1 : Nat} {A2 : Option Addr} {c2 : Nat} {t : Ten}
/-- The variable's block is made last. -/
theorem VarT.last (T : TypeId) (own : OwnT W lo hi A0 t.labels.length c0 A1 t.dims.length c1 A2 t.data.length c2 t) (st : Step W0 W) (h1 : W0.heap.size ≤ lo) (h2 : lo ≤ hi) (h3 : hi ≤ W.heap.size) :
    VarT W0 (W.alloc (.cells #[.slice A0 t.labels.length c0, .slice A1 t.dims.length c1, .slice A2 t.data.length c2] T)) lo hi W.heap.size A0 c0 A1 c1 A2 c2 t := by
  have hs := st.size
  exact ⟨by simp, by simp, by simp, own.step (Step.alloc _ _), st.trans (Step.alloc _ _), h1, h2, by simp; omega, hs, by simp, .inr h3⟩
theorem Step.set {W W' : World} (st : Step W W') {b o : Nat} (hb : W.heap.size ≤ b) (v : Value) : Step W (W'.setCell ⟨b, o, none⟩ v) := Below.setCell st (p := ⟨b, o, none⟩) hb v
theorem cell_set_same {W : World} {b o : Nat} {v u : Value} (h : W.cell? ⟨b, o, none⟩ = some u) : (W.setCell ⟨b, o, none⟩ v).cell? ⟨b, o, none⟩ = some v := World.cell?_setCell_same W _ v h
theorem cell_set_other {W : World} {b o o' : Nat} {v u : Value} (h : W.cell? ⟨b, o, none⟩ = some u) (hne : o' ≠ o) : (W.setCell ⟨b, o', none⟩ v).cell? ⟨b, o, none⟩ = some u :=
  (World.cell?_setCell_other W _ _ v (fun e => hne (by injection e))).trans h
/-- The variable's block was made before the tensor. -/
theorem VarT.first {u0 u1 u2 : Value} (own : OwnT W lo hi A0 t.labels.length c0 A1 t.dims.length c1 A2 t.data.length c2 t) (st : Step W0 W) (h1 : W0.heap.size ≤ b) (h2 : b < lo) (h3 : lo ≤ hi) (h4 : hi ≤ W.heap.size)
    (q0 : W.cell? ⟨b, 0, none⟩ = some u0) (q1 : W.cell? ⟨b, 1, none⟩ = some u1) (q2 : W.cell? ⟨b, 2, none⟩ = some u2) :
    VarT W0 (((W.setCell ⟨b, 0, none⟩ (.slice A0 t.labels.length c0)).setCell ⟨b, 1, none⟩ (.slice A1 t.dims.length c1)).setCell ⟨b, 2, none⟩ (.slice A2 t.data.length c2)) lo hi b A0 c0 A1 c1 A2 c2 t := by
  have hs := st.size
  have hz : (((W.setCell ⟨b, 0, none⟩ (.slice A0 t.labels.length c0)).setCell ⟨b, 1, none⟩ (.slice A1 t.dims.length c1)).setCell ⟨b, 2, none⟩ (.slice A2 t.data.length c2)).heap.size = W.heap.size := by simp only [size_setCell]
  refine ⟨?_, ?_, ?_, ((own.far _ h2).far _ h2).far _ h2, ((st.set h1 _).set h1 _).set h1 _, by omega, h3, by rw [hz]; exact h4, h1, by rw [hz]; omega, .inl h2⟩
  · exact cell_set_other (cell_set_other (cell_set_same q0) (by omega)) (by omega)
  · exact cell_set_other (cell_set_same (cell_set_other q1 (by omega))) (by omega)
  · exact cell_set_same (cell_set_other (cell_set_other q2 (by omega)) (by omega))
end
/-- Behind a draw a step is a step. -/
theorem Step.of_drew {W W' : World} (h : Step W.drew W') : Step W W' := ⟨h.os, h.tape, h.output, h.size, h.block⟩

end Go.Proofs.YtodlbhjnmdhjiaaDoor

/-
  Contracts: the size of a tensor, in the program and in the reference; membership; places. No condition but bounds on lengths.
-/
namespace Go.Proofs.YtodlbhjnmdhjiaaDoor
open Go.RowKit Plain

theorem hasInt_any (A : Option Addr) (n c : Nat) (xs : List Int) (x : Int) (B : Nat) (w : World) (h : IntsAt w B A n xs) (hm : n ≤ 1099511627776) :
    Calls Tryd.prog 41 #[.slice A n c, .int .i64 x] w fun e w' => e = .returned (.bool (has xs x)) ∧ w = w' := by
  have hlen := Lib.hid h.len
  go_enter Tryd.func41, Tryd.ntmps41
  go_wp2
  go_loop [9] (fun i => ∃ k : Nat, k ≤ n ∧ i = .int .i64 k ∧ x ∉ xs.take k) (fun i => n - (intOf i).toNat)
  case atStart => exact ⟨0, Nat.zero_le _, rfl, by simp⟩
  case round =>
    obtain ⟨k, hk, rfl, hno⟩ := hrel
    by_cases hlt : k < n
    · obtain ⟨b, off, rfl, hb, hc⟩ := h.at_ (by omega)
      have hck := hc k hlt
      have hms := Lib.hid (mem_take_succ xs k x (by rw [hlen.out]; exact hlt))
      have hmg := Lib.hid (mem_of_get xs k (by rw [hlen.out]; exact hlt))
      have hno' := Lib.hid hno
      obtain ⟨y, hy⟩ : ∃ y, y = xs.getD k 0 := ⟨_, rfl⟩
      rw [← hy] at hck hms hmg
      by_cases hxy : x = y
      · have ht : (x == y) = true := beq_iff_eq.2 hxy
        have HX := Lib.hid hxy
        clear hc h hno hy hxy
        go_wp2
        go_ret
        exact ⟨ret_bool (by have e := HX.out; have m := hmg.out; exact (has_true.2 (e ▸ m)).symm), rfl⟩
      · have ht : (x == y) = false := beq_eq_false_iff_ne.2 hxy
        have HX := Lib.hid hxy
        clear hc h hno hy hxy
        go_wp2
        go_round
        case rel => exact ⟨k + 1, by omega, by go_num, by rw [hms.out]; intro hh; rcases hh with hh | hh; exact hno'.out hh; exact HX.out hh⟩
        case measure => simp [intOf]; omega
    · have hno' := Lib.hid hno
      clear hno
      go_wp2
      go_ret
      refine ⟨ret_bool ?_, rfl⟩
      obtain rfl : k = n := by omega
      have e := hno'.out
      rw [List.take_of_length_le (by rw [hlen.out]; exact Nat.le_refl _)] at e
      exact (has_false.2 e).symm

theorem l05Find_any (A : Option Addr) (n c : Nat) (xs : List Int) (x : Int) (B : Nat) (w : World) (h : IntsAt w B A n xs) (hm : n ≤ 1099511627776) :
    Calls Tryd.prog 47 #[.slice A n c, .int .i64 x] w fun e w' => e = .returned (.int .i64 (place xs x)) ∧ w = w' := by
  have hlen := Lib.hid h.len
  go_enter Tryd.func47, Tryd.ntmps47
  go_wp2
  go_loop [9] (fun i => ∃ k : Nat, k ≤ n ∧ i = .int .i64 k ∧ x ∉ xs.take k) (fun i => n - (intOf i).toNat)
  case atStart => exact ⟨0, Nat.zero_le _, rfl, by simp⟩
  case round =>
    obtain ⟨k, hk, rfl, hno⟩ := hrel
    by_cases hlt : k < n
    · obtain ⟨b, off, rfl, hb, hc⟩ := h.at_ (by omega)
      have hck := hc k hlt
      have hms := Lib.hid (mem_take_succ xs k x (by rw [hlen.out]; exact hlt))
      have hno' := Lib.hid hno
      have hpl := Lib.hid (@place_yes xs k (by rw [hlen.out]; exact hlt))
      obtain ⟨y, hy⟩ : ∃ y, y = xs.getD k 0 := ⟨_, rfl⟩
      rw [← hy] at hck hms hpl
      by_cases hxy : x = y
      · have ht : (y == x) = true := beq_iff_eq.2 hxy.symm
        have HX := Lib.hid hxy
        clear hc h hno hy hxy
        go_wp2
        go_ret
        refine ⟨ret_int ?_, rfl⟩
        have e := HX.out
        have e2 := hno'.out
        subst e
        exact (hpl.out e2).symm
      · have ht : (y == x) = false := beq_eq_false_iff_ne.2 (Ne.symm hxy)
        have HX := Lib.hid hxy
        clear hc h hno hy hxy
        go_wp2
        go_round
        case rel => exact ⟨k + 1, by omega, by go_num, by rw [hms.out]; intro hh; rcases hh with hh | hh; exact hno'.out hh; exact HX.out hh⟩
        case measure => simp [intOf]; omega
    · have hno' := Lib.hid hno
      clear hno
      go_wp2
      go_ret
      refine ⟨ret_int ?_, rfl⟩
      obtain rfl : k = n := by omega
      have e := hno'.out
      rw [List.take_of_length_le (by rw [hlen.out]; exact Nat.le_refl _)] at e
      exact (place_no e).symm

theorem l01In_yes (x a b : Int) (w : World) (h1 : a ≤ x) (h2 : x ≤ b) : Calls Tryd.prog 28 #[.int .i64 x, .int .i64 a, .int .i64 b] w fun e w' => e = .returned (.bool true) ∧ w = w' := by
  go_enter Tryd.func28, Tryd.ntmps28
  go_wp2
  go_ret
  exact ⟨rfl, rfl⟩
theorem l01In_no (x a b : Int) (w : World) (h : ¬ (a ≤ x ∧ x ≤ b)) : Calls Tryd.prog 28 #[.int .i64 x, .int .i64 a, .int .i64 b] w fun e w' => e = .returned (.bool false) ∧ w = w' := by
  by_cases h1 : a ≤ x
  · have h2 : ¬ x ≤ b := fun h2 => h ⟨h1, h2⟩
    clear h
    go_enter Tryd.func28, Tryd.ntmps28
    go_wp2
    go_ret
    exact ⟨rfl, rfl⟩
  · clear h
    go_enter Tryd.func28, Tryd.ntmps28
    go_wp2
    go_ret
    exact ⟨rfl, rfl⟩

end Go.Proofs.YtodlbhjnmdhjiaaDoor

/-
  Contracts: TensorSize, in the program and in the reference. No condition but bounds on lengths.
-/
namespace Go.Proofs.YtodlbhjnmdhjiaaDoor
open Go.RowKit Plain

/-- The value of a tensor. -/
abbrev tv (A0 : Option Addr) (n0 c0 : Nat) (A1 : Option Addr) (n1 c1 : Nat) (A2 : Option Addr) (n2 c2 : Nat) : Value := .agg #[.slice A0 n0 c0, .slice A1 n1 c1, .slice A2 n2 c2]

set_option maxHeartbeats 800000 in
theorem iTensorSize (A0 : Option Addr) (n0 c0 : Nat) (A1 : Option Addr) (n1 c1 : Nat) (A2 : Option Addr) (n2 c2 : Nat) (ls ds : List Int) (w : World) (hl : IntsAt w w.heap.size A0 n0 ls) (hd : IntsAt w w.heap.size A1 n1 ds)
    (k0 : n0 ≤ 1099511627776) (k1 : n1 ≤ 1099511627776) (q0 : n0 ≤ c0) :
    Calls Tryd.prog 32 #[tv A0 n0 c0 A1 n1 c1 A2 n2 c2] w (RetV w (.int .i64 (tsize ls ds))) := by
  have hll := Lib.hid hl.len
  have hdl := Lib.hid hd.len
  by_cases hbig : 12 < n0
  · have hr := Lib.hid (@tsize_len1 ls ds (by rw [hll.out]; exact hbig))
    go_enter Tryd.func32, Tryd.ntmps32
    go_wp2
    go_ret
    exact ⟨ret_int hr.out.symm, (Below.refl _ _).alloc (Nat.le_refl _) _⟩
  by_cases hne : n0 = n1
  case neg =>
    have hr := Lib.hid (@tsize_len2 ls ds (by rw [hll.out, hdl.out]; exact hne))
    have ht : ((n0 : Int) != (n1 : Int)) = true := by rw [bne_iff_ne]; omega
    go_enter Tryd.func32, Tryd.ntmps32
    go_wp2
    go_ret
    exact ⟨ret_int hr.out.symm, (Below.refl _ _).alloc (Nat.le_refl _) _⟩
  subst hne
  go_enter Tryd.func32, Tryd.ntmps32
  go_wp2
  go_loop [3, 23] (fun s i => ∃ k : Nat, k ≤ n0 ∧ i = .int .i64 k ∧ s = .int .i64 (prodI (ds.take k)) ∧ 1 ≤ prodI (ds.take k) ∧ prodI (ds.take k) ≤ 4096 ∧ ∀ j, j < k → axAt ls ds j) (fun _ i => n0 - (intOf i).toNat)
  case atStart => exact ⟨0, Nat.zero_le _, rfl, rfl, by simp [prodI], by simp [prodI], fun j hj => absurd hj (by omega)⟩
  case round =>
    obtain ⟨k, hk, rfl, rfl, hp1, hp2, hax⟩ := hrel
    have HAX := Lib.hid hax
    clear hax
    by_cases hlt : k < n0
    · have hbel : Below w.heap.size w (w.alloc (.cells #[.slice A0 n0 c0, .slice A1 n0 c1, .slice A2 n2 c2] 31)) := (Below.refl _ _).alloc (Nat.le_refl _) _
      obtain ⟨b, off, rfl, hb, hc⟩ := (hl.below hbel (Nat.le_refl _)).at_ (by omega)
      obtain ⟨b', off', rfl, hb', hc'⟩ := (hd.below hbel (Nat.le_refl _)).at_ (by omega)
      have hck := hc k hlt
      have hck' := hc' k hlt
      have htk := (hl.below hbel (Nat.le_refl _)).take (k := k) (by omega)
      have hbad := Lib.hid (fun h => @tsize_ax ls ds k (by rw [hll.out]; exact hlt) h)
      have hbig2 := Lib.hid (fun h => @tsize_big ls ds k (by rw [hll.out]; exact hlt) (by rw [hll.out, hdl.out]) h)
      have hsuc := Lib.hid (prodI_take_succ ds k (by rw [hdl.out]; exact hlt))
      have hdef := Lib.hid (axAt_has ls ds k)
      generalize hx : ls.getD k 0 = x at hck hbad hdef
      generalize hy : ds.getD k 0 = y at hck' hbig2 hsuc hdef
      generalize hp : prodI (ds.take k) = p at *
      clear hx hy hp hc hc'
      have hi : (k : Int) < (n0 : Int) := by omega
      have hkc : k ≤ c0 := by omega
      by_cases hgx : 0 ≤ x ∧ x ≤ 99 ∧ has (ls.take k) x = false ∧ 1 ≤ y ∧ y ≤ 8
      · obtain ⟨g1, g2, g3, g4, g5⟩ := hgx
        have hq1 : 1 ≤ p * y := by have := Int.mul_pos (a := p) (b := y) (by omega) (by omega); omega
        have hq2 : p * y ≤ 32768 := by have := Int.mul_le_mul (a := p) (b := y) (c := 4096) (d := 8) hp2 g5 (by omega) (by omega); omega
        by_cases hq : 4096 < p * y
        · go_wp2_with (go_at_call 41; refine (hasInt_any _ _ _ (ls.take k) x w.heap.size _ htk (by omega)).mono ?_; rintro e w' ⟨rfl, rfl⟩)
          go_ret
          exact ⟨ret_int (hbig2.out hq).symm, hbel⟩
        · go_wp2_with (go_at_call 41; refine (hasInt_any _ _ _ (ls.take k) x w.heap.size _ htk (by omega)).mono ?_; rintro e w' ⟨rfl, rfl⟩)
          go_round
          case rel =>
            refine ⟨k + 1, by omega, by go_num, by rw [hsuc.out], by rw [hsuc.out]; exact hq1, by rw [hsuc.out]; omega, fun j hj => ?_⟩
            rcases Nat.lt_or_ge j k with h1 | h1
            · exact HAX.out j h1
            · obtain rfl : j = k := by omega
              exact hdef.out.2 ⟨g1, g2, g3, g4, g5⟩
          case measure => simp [intOf]; omega
      · have hb' := hbad.out (fun hh => hgx (hdef.out.1 hh))
        rw [hb']
        have HG := Lib.hid hgx
        clear hgx hdef hbig2 hbad hb' hsuc HAX
        go_wp2_with (go_at_call 41; refine (hasInt_any _ _ _ (ls.take k) x w.heap.size _ htk (by omega)).mono ?_; rintro e w' ⟨rfl, rfl⟩)
        all_goals first
          | (exfalso; have h1 : (0 ≤ x ∧ x ≤ 99) ∧ has (ls.take k) x = false := by assumption
             exact HG.out ⟨h1.1.1, h1.1.2, h1.2, by omega, by omega⟩)
          | (go_ret; exact ⟨rfl, hbel⟩)
    · go_wp2
      go_ret
      obtain rfl : k = n0 := by omega
      have e : ds.take k = ds := List.take_of_length_le (by rw [hdl.out]; exact Nat.le_refl _)
      rw [e] at hp1 hp2 ⊢
      exact ⟨ret_int (tsize_good (by rw [hll.out]; omega) (by rw [hll.out, hdl.out]) (by rw [hll.out]; exact HAX.out) hp2).symm, (Below.refl _ _).alloc (Nat.le_refl _) _⟩

end Go.Proofs.YtodlbhjnmdhjiaaDoor

/-
  Contracts: the reference's l05Axes, l05Product, TensorSize. No condition but bounds on lengths.
-/
namespace Go.Proofs.YtodlbhjnmdhjiaaDoor
open Go.RowKit Plain

def axB (ls ds : List Int) : Bool := decide (axOk ls ds)
theorem axB_no1 {ls ds : List Int} (h : 12 < ls.length) : axB ls ds = false := by unfold axB; rw [decide_eq_false_iff_not]; intro h1; have := h1.1; omega
theorem axB_no2 {ls ds : List Int} (h : ls.length ≠ ds.length) : axB ls ds = false := by unfold axB; rw [decide_eq_false_iff_not]; intro h1; exact h h1.2.1
theorem axB_no3 {ls ds : List Int} (k : Nat) (hk : k < ls.length) (h : ¬ axAt ls ds k) : axB ls ds = false := by unfold axB; rw [decide_eq_false_iff_not]; intro h1; exact h (h1.2.2 k hk)
theorem axB_yes {ls ds : List Int} (h0 : ls.length ≤ 12) (h1 : ls.length = ds.length) (h2 : ∀ k, k < ls.length → axAt ls ds k) : axB ls ds = true := by unfold axB; rw [decide_eq_true_iff]; exact ⟨h0, h1, h2⟩

set_option maxHeartbeats 800000 in
theorem l05Axes_any (A0 : Option Addr) (n0 c0 : Nat) (A1 : Option Addr) (n1 c1 : Nat) (ls ds : List Int) (B : Nat) (w : World) (hl : IntsAt w B A0 n0 ls) (hd : IntsAt w B A1 n1 ds)
    (k0 : n0 ≤ 1099511627776) (k1 : n1 ≤ 1099511627776) (q0 : n0 ≤ c0) :
    Calls Tryd.prog 37 #[.slice A0 n0 c0, .slice A1 n1 c1] w fun e w' => e = .returned (.bool (axB ls ds)) ∧ w = w' := by
  have hll := Lib.hid hl.len
  have hdl := Lib.hid hd.len
  by_cases hbig : 12 < n0
  · have hr := Lib.hid (@axB_no1 ls ds (by rw [hll.out]; exact hbig))
    go_enter Tryd.func37, Tryd.ntmps37
    go_wp2
    go_ret
    exact ⟨ret_bool hr.out.symm, rfl⟩
  by_cases hne : n0 = n1
  case neg =>
    have hr := Lib.hid (@axB_no2 ls ds (by rw [hll.out, hdl.out]; exact hne))
    have ht : ((n0 : Int) != (n1 : Int)) = true := by rw [bne_iff_ne]; omega
    go_enter Tryd.func37, Tryd.ntmps37
    go_wp2
    go_ret
    exact ⟨ret_bool hr.out.symm, rfl⟩
  subst hne
  go_enter Tryd.func37, Tryd.ntmps37
  go_wp2
  go_loop [19] (fun i => ∃ k : Nat, k ≤ n0 ∧ i = .int .i64 k ∧ ∀ j, j < k → axAt ls ds j) (fun i => n0 - (intOf i).toNat)
  case atStart => exact ⟨0, Nat.zero_le _, rfl, fun j hj => absurd hj (by omega)⟩
  case round =>
    obtain ⟨k, hk, rfl, hax⟩ := hrel
    have HAX := Lib.hid hax
    clear hax
    by_cases hlt : k < n0
    · obtain ⟨b, off, rfl, hb, hc⟩ := hl.at_ (by omega)
      obtain ⟨b', off', rfl, hb', hc'⟩ := hd.at_ (by omega)
      have hck := hc k hlt
      have hck' := hc' k hlt
      have htk := hl.take (k := k) (by omega)
      have hbad := Lib.hid (fun h => @axB_no3 ls ds k (by rw [hll.out]; exact hlt) h)
      have hdef := Lib.hid (show axAt ls ds k ↔ 0 ≤ ls.getD k 0 ∧ ls.getD k 0 ≤ 99 ∧ 1 ≤ ds.getD k 0 ∧ ds.getD k 0 ≤ 8 ∧ ls.getD k 0 ∉ ls.take k from Iff.rfl)
      generalize hx : ls.getD k 0 = x at hck hbad hdef
      generalize hy : ds.getD k 0 = y at hck' hdef
      clear hx hy hc hc'
      have hi : (k : Int) < (n0 : Int) := by omega
      have hkc : k ≤ c0 := by omega
      have hpl := Lib.hid (@place_neg (ls.take k) x)
      by_cases hgx : 0 ≤ x ∧ x ≤ 99
      · obtain ⟨g1, g2⟩ := hgx
        by_cases hgy : 1 ≤ y ∧ y ≤ 8
        · obtain ⟨g3, g4⟩ := hgy
          by_cases hgp : place (ls.take k) x < 0
          · go_wp2_with (first
              | (go_at_call 28; refine (l01In_yes _ _ _ _ (by omega) (by omega)).mono ?_; rintro e w' ⟨rfl, rfl⟩)
              | (go_at_call 47; refine (l05Find_any _ _ _ (ls.take k) x B _ htk (by omega)).mono ?_; rintro e w' ⟨rfl, rfl⟩))
            go_round
            case rel =>
              refine ⟨k + 1, by omega, by go_num, fun j hj => ?_⟩
              rcases Nat.lt_or_ge j k with h1 | h1
              · exact HAX.out j h1
              · obtain rfl : j = k := by omega
                exact hdef.out.2 ⟨g1, g2, g3, g4, hpl.out.1 hgp⟩
            case measure => simp [intOf]; omega
          · have hb' := Lib.hid (hbad.out (fun hh => hgp (hpl.out.2 (hdef.out.1 hh).2.2.2.2)))
            clear hdef
            go_wp2_with (first
              | (go_at_call 28; refine (l01In_yes _ _ _ _ (by omega) (by omega)).mono ?_; rintro e w' ⟨rfl, rfl⟩)
              | (go_at_call 47; refine (l05Find_any _ _ _ (ls.take k) x B _ htk (by omega)).mono ?_; rintro e w' ⟨rfl, rfl⟩))
            go_ret
            exact ⟨ret_bool hb'.out.symm, rfl⟩
        · have hb' := Lib.hid (hbad.out (fun hh => hgy ⟨(hdef.out.1 hh).2.2.1, (hdef.out.1 hh).2.2.2.1⟩))
          have HG := Lib.hid hgy
          clear hgy
          go_wp2_with (first
              | (go_at_call 28; first | (refine (l01In_yes _ _ _ _ (by omega) (by omega)).mono ?_; rintro e w' ⟨rfl, rfl⟩) | (refine (l01In_no _ _ _ _ HG.out).mono ?_; rintro e w' ⟨rfl, rfl⟩)))
          go_ret
          exact ⟨ret_bool hb'.out.symm, rfl⟩
      · have hb' := Lib.hid (hbad.out (fun hh => hgx ⟨(hdef.out.1 hh).1, (hdef.out.1 hh).2.1⟩))
        have HG := Lib.hid hgx
        clear hgx
        go_wp2_with (go_at_call 28; refine (l01In_no _ _ _ _ HG.out).mono ?_; rintro e w' ⟨rfl, rfl⟩)
        go_ret
        exact ⟨ret_bool hb'.out.symm, rfl⟩
    · go_wp2
      go_ret
      obtain rfl : k = n0 := by omega
      exact ⟨ret_bool (axB_yes (by rw [hll.out]; omega) (by rw [hll.out, hdl.out]) (by rw [hll.out]; exact HAX.out)).symm, rfl⟩

theorem l05Product_any (A : Option Addr) (n c : Nat) (ds : List Int) (lim : Int) (B : Nat) (w : World) (h : IntsAt w B A n ds) (hn : n ≤ 1099511627776) (hds : ∀ d ∈ ds, 1 ≤ d ∧ d ≤ 8) (h1 : 0 ≤ lim) (h2 : lim ≤ 1099511627776) :
    Calls Tryd.prog 13 #[.slice A n c, .int .i64 lim] w fun e w' => e = .returned (.int .i64 (min (prodI ds) (lim + 1))) ∧ w = w' := by
  have hlen := Lib.hid h.len
  have HDS := Lib.hid hds
  clear hds
  go_enter Tryd.func13, Tryd.ntmps13
  go_wp2
  go_loop [5, 10] (fun p i => ∃ k : Nat, k ≤ n ∧ i = .int .i64 k ∧ p = .int .i64 (min (prodI (ds.take k)) (lim + 1))) (fun _ i => n - (intOf i).toNat)
  case atStart => exact ⟨0, Nat.zero_le _, rfl, by simp [prodI]; omega⟩
  case round =>
    obtain ⟨k, hk, rfl, rfl⟩ := hrel
    have hp1 := prodI_pos (ds.take k) (fun d hd => (HDS.out d (List.mem_of_mem_take hd)).1)
    by_cases hlt : k < n
    · obtain ⟨b, off, rfl, hb, hc⟩ := h.at_ (by omega)
      have hck := hc k hlt
      have hsuc := Lib.hid (prodI_take_succ ds k (by rw [hlen.out]; exact hlt))
      have hyb := HDS.out _ (mem_of_get ds k (by rw [hlen.out]; exact hlt))
      generalize hy : ds.getD k 0 = y at hck hsuc hyb
      generalize hp : prodI (ds.take k) = p at *
      obtain ⟨g1, g2⟩ := hyb
      have hmm := Lib.hid (min_mul p y (lim + 1) (by omega) (by omega))
      obtain ⟨q, hq⟩ : ∃ q, q = min p (lim + 1) := ⟨_, rfl⟩
      rw [← hq] at hmm ⊢
      have hq1 : 1 ≤ q := by omega
      have hq2 : q ≤ lim + 1 := by omega
      have hqy1 : 1 ≤ q * y := by have := Int.mul_pos (a := q) (b := y) (by omega) (by omega); omega
      have hqy2 : q * y ≤ (lim + 1) * 8 := Int.mul_le_mul hq2 g2 (by omega) (by omega)
      have hi : (k : Int) < (n : Int) := by omega
      clear hc hy hp hq
      go_wp2
      refine ⟨⟨k + 1, by omega, by go_num, ?_⟩, by simp [intOf]; omega⟩
      rw [hsuc.out, ← hmm.out]
      congr 1
      split <;> omega
    · go_wp2
      go_ret
      obtain rfl : k = n := by omega
      have e : ds.take k = ds := List.take_of_length_le (by rw [hlen.out]; exact Nat.le_refl _)
      exact ⟨ret_int (by rw [e]), rfl⟩

theorem sTensorSize (A0 : Option Addr) (n0 c0 : Nat) (A1 : Option Addr) (n1 c1 : Nat) (A2 : Option Addr) (n2 c2 : Nat) (ls ds : List Int) (w : World) (hl : IntsAt w w.heap.size A0 n0 ls) (hd : IntsAt w w.heap.size A1 n1 ds)
    (k0 : n0 ≤ 1099511627776) (k1 : n1 ≤ 1099511627776) (q0 : n0 ≤ c0) :
    Calls Tryd.prog 25 #[.agg #[.slice A0 n0 c0, .slice A1 n1 c1, .slice A2 n2 c2]] w (RetV w (.int .i64 (tsize ls ds))) := by
  have hbel : Below w.heap.size w (w.alloc (.cells #[.slice A0 n0 c0, .slice A1 n1 c1, .slice A2 n2 c2] 31)) := (Below.refl _ _).alloc (Nat.le_refl _) _
  have hl' := hl.below hbel (Nat.le_refl _)
  have hd' := hd.below hbel (Nat.le_refl _)
  by_cases hax : axOk ls ds
  · have hb : axB ls ds = true := decide_eq_true hax
    by_cases hp : prodI ds ≤ 4096
    · have hr := Lib.hid (tsize_good hax.1 hax.2.1 hax.2.2 hp)
      have hm := Lib.hid (show min (prodI ds) (4096 + 1) = prodI ds by omega)
      have HAX := Lib.hid hax
      clear hax
      go_enter Tryd.func25, Tryd.ntmps25
      go_wp2_with (first
        | (go_at_call 37; refine (l05Axes_any _ _ _ _ _ _ ls ds w.heap.size _ hl' hd' k0 k1 q0).mono ?_; rintro e w' ⟨rfl, rfl⟩)
        | (go_at_call 13; refine (l05Product_any _ _ _ ds 4096 w.heap.size _ hd' k1 HAX.out.dim (by omega) (by omega)).mono ?_; rintro e w' ⟨rfl, rfl⟩; rw [hm.out]))
      go_ret
      exact ⟨ret_int hr.out.symm, hbel⟩
    · have hr := Lib.hid (show tsize ls ds = -1 by unfold tsize; rw [if_neg (fun h => hp h.2)])
      have hm := Lib.hid (show min (prodI ds) (4096 + 1) = 4097 by omega)
      have HAX := Lib.hid hax
      clear hax hp
      go_enter Tryd.func25, Tryd.ntmps25
      go_wp2_with (first
        | (go_at_call 37; refine (l05Axes_any _ _ _ _ _ _ ls ds w.heap.size _ hl' hd' k0 k1 q0).mono ?_; rintro e w' ⟨rfl, rfl⟩)
        | (go_at_call 13; refine (l05Product_any _ _ _ ds 4096 w.heap.size _ hd' k1 HAX.out.dim (by omega) (by omega)).mono ?_; rintro e w' ⟨rfl, rfl⟩; rw [hm.out]))
      go_ret
      exact ⟨ret_int hr.out.symm, hbel⟩
  · have hb : axB ls ds = false := decide_eq_false hax
    have hr := Lib.hid (show tsize ls ds = -1 by unfold tsize; rw [if_neg (fun h => hax h.1)])
    clear hax
    go_enter Tryd.func25, Tryd.ntmps25
    go_wp2_with (go_at_call 37; refine (l05Axes_any _ _ _ _ _ _ ls ds w.heap.size _ hl' hd' k0 k1 q0).mono ?_; rintro e w' ⟨rfl, rfl⟩)
    go_ret
    exact ⟨ret_int hr.out.symm, hbel⟩

end Go.Proofs.YtodlbhjnmdhjiaaDoor

/-
  The contracts of TensorSize in the form in which the laws use them. No condition.
-/
namespace Go.Proofs.YtodlbhjnmdhjiaaDoor
open Go.RowKit Plain

theorem iTensorSize_c {W : World} {A0 : Option Addr} {n0 c0 : Nat} {A1 : Option Addr} {n1 c1 : Nat} {A2 : Option Addr} {n2 c2 : Nat} {t : Ten} (h : TnOk W A0 n0 c0 A1 n1 c1 A2 n2 c2 t) :
    Calls Tryd.prog 32 #[.agg #[.slice A0 n0 c0, .slice A1 n1 c1, .slice A2 n2 c2]] W (RetV W (.int .i64 (tsize t.labels t.dims))) :=
  iTensorSize _ _ _ _ _ _ _ _ _ _ _ _ h.l.at_ h.d.at_ h.l.len h.d.len h.l.cap
theorem sTensorSize_c {W : World} {A0 : Option Addr} {n0 c0 : Nat} {A1 : Option Addr} {n1 c1 : Nat} {A2 : Option Addr} {n2 c2 : Nat} {t : Ten} (h : TnOk W A0 n0 c0 A1 n1 c1 A2 n2 c2 t) :
    Calls Tryd.prog 25 #[.agg #[.slice A0 n0 c0, .slice A1 n1 c1, .slice A2 n2 c2]] W (RetV W (.int .i64 (tsize t.labels t.dims))) :=
  sTensorSize _ _ _ _ _ _ _ _ _ _ _ _ h.l.at_ h.d.at_ h.l.len h.d.len h.l.cap
end Go.Proofs.YtodlbhjnmdhjiaaDoor
