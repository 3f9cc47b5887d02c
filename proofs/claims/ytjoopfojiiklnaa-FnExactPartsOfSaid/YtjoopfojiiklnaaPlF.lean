/-
  Plain: labellings of points by classes, merged edge by edge; how many classes; forests. No condition.
-/
import Derived.Test.YtjoopfojiiklnaaPlN
namespace Go.Proofs.Ytjoopfojiiklnaa
open Go.RowKit Go.Lift Plain
set_option linter.unusedSimpArgs false
set_option linter.unusedVariables false
set_option maxRecDepth 100000

def mrg (r : Nat → Nat) (u v j : Nat) : Nat := if r j = r v then r u else r j
def smg (r : Nat → Nat) (u v j : Nat) : Nat := if r j = max (r u) (r v) then min (r u) (r v) else r j
section
variable {P Q : Nat → Bool} {r r' S : Nat → Nat} {u v n w : Nat}
end
def fdg (st : (Nat → Nat) → Nat → Nat → Nat → Nat) (r : Nat → Nat) : List (Nat × Nat) → Nat → Nat
  | [] => r
  | e :: l => fdg st (st r e.1 e.2) l
def redu (st : (Nat → Nat) → Nat → Nat → Nat → Nat) (r : Nat → Nat) : List (Nat × Nat) → Nat
  | [] => 0
  | e :: l => (if r e.1 = r e.2 then 1 else 0) + redu st (st r e.1 e.2) l
section
variable {st : (Nat → Nat) → Nat → Nat → Nat → Nat} {r S : Nat → Nat} {n : Nat}
theorem fdg_app : ∀ {a b : List (Nat × Nat)} {r : Nat → Nat}, fdg st r (a ++ b) = fdg st (fdg st r a) b
  | [], _, _ => rfl
  | _ :: a, b, _ => by rw [List.cons_append, fdg, fdg, fdg_app]
theorem fdg_snoc {a : List (Nat × Nat)} {u v : Nat} : fdg st r (a ++ [(u, v)]) = st (fdg st r a) u v := by rw [fdg_app]; rfl
theorem redu_app : ∀ {a b : List (Nat × Nat)} {r : Nat → Nat}, redu st r (a ++ b) = redu st r a + redu st (fdg st r a) b
  | [], _, _ => by simp [redu, fdg]
  | _ :: a, b, _ => by rw [List.cons_append, redu, redu, fdg, redu_app, Nat.add_assoc]
end
/-! ### Tensors and labels -/
section
variable {m : Nat} {L : Nat → List Int}
def shr (L : Nat → List Int) (i k : Nat) : Bool := (L i).any fun x => has (L k) x
def edgT (m : Nat) (L : Nat → List Int) (k : Nat) : List (Nat × Nat) := (List.range k).flatMap fun i => (L i).map fun x => (i, m + x.toNat)
def edgQ (m : Nat) (L : Nat → List Int) (k q : Nat) : List (Nat × Nat) := edgT m L k ++ ((L k).take q).map fun x => (k, m + x.toNat)
def metT (L : Nat → List Int) (i : Nat) : List (Nat × Nat) := (List.range i).flatMap fun i => ((List.range i).filter (shr L i)).map fun k => (i, k)
def metQ (L : Nat → List Int) (i k : Nat) : List (Nat × Nat) := metT L i ++ ((List.range k).filter (shr L i)).map fun k => (i, k)
theorem shr_iff {i k : Nat} : shr L i k = true ↔ ∃ x, x ∈ L i ∧ x ∈ L k := by
  simp only [shr, List.any_eq_true, has_true]
theorem edgQ_zero (k : Nat) : edgQ m L k 0 = edgT m L k := by simp [edgQ]
theorem edgQ_next {k q : Nat} (hq : q < (L k).length) : edgQ m L k (q + 1) = edgQ m L k q ++ [(k, m + (L k)[q].toNat)] := by
  rw [edgQ, take_ss hq, List.map_append, ← List.append_assoc]
  rfl
theorem edgQ_end {k q : Nat} (hq : (L k).length ≤ q) : edgQ m L k q = edgT m L (k + 1) := by
  rw [edgQ, List.take_of_length_le hq, edgT, edgT, List.range_succ, List.flatMap_append]
  simp
theorem metQ_zero (i : Nat) : metQ L i 0 = metT L i := by simp [metQ]
theorem metQ_yes {i k : Nat} (h : shr L i k = true) : metQ L i (k + 1) = metQ L i k ++ [(i, k)] := by simp [metQ, List.range_succ, h]
theorem metQ_no {i k : Nat} (h : shr L i k = false) : metQ L i (k + 1) = metQ L i k := by simp [metQ, List.range_succ, h]
theorem metQ_end (i : Nat) : metQ L i i = metT L (i + 1) := by
  rw [metQ, metT, metT, List.range_succ (n := i), List.flatMap_append]
  simp
def prt (m : Nat) (L : Nat → List Int) : Nat → Nat := fdg smg (fun i => i) (metT L m)
open Classical in
noncomputable def both (m : Nat) (L : Nat → List Int) (j : Nat) : Nat :=
  if j < m then prt m L j else if h : ∃ i, i < m ∧ ((j - m : Nat) : Int) ∈ L i then prt m L h.choose else j
end
end Go.Proofs.Ytjoopfojiiklnaa
