/-
  Plain: decompositions: bags, homes, tops. No condition.
-/
import Derived.Test.YtjoopfojiiklnaaEliA
import Derived.Test.YtjoopfojiiklnaaNetE
namespace Go.Proofs.Ytjoopfojiiklnaa
open Go.RowKit Go.Lift Plain
set_option linter.unusedSimpArgs false
set_option linter.unusedVariables false
set_option maxRecDepth 100000

def allL (a b : List Int) : Bool := decide (∀ x ∈ a, x ∈ b)
section
variable {B : List (List Int)} {P : List Int} {ts : List Ten} {l : List Int} {x : Int} {n k : Nat}
def Home (B : List (List Int)) (l : List Int) : Prop := ∃ k, ∃ hk : k < B.length, allL l B[k] = true
def PrOk (P : List Int) (i : Nat) : Prop := (i = 0 → P.getD 0 0 = -1) ∧ (0 < i → 0 ≤ P.getD i 0 ∧ P.getD i 0 < i)
def BgOk (ts : List Ten) (b : List Int) : Prop := ∀ i (h : i < b.length), dimN ts b[i] ≠ 0 ∧ (0 < i → b.getD (i - 1) 0 < b[i])
def BagsOk (ts : List Ten) (B : List (List Int)) (P : List Int) : Prop := (1 ≤ B.length ∧ B.length ≤ 40) ∧ P.length = B.length ∧ ∀ i (h : i < B.length), PrOk P i ∧ BgOk ts B[i]
def topB (B : List (List Int)) (P : List Int) (x : Int) (i : Nat) : Bool := has (B.getD i []) x && (decide (i = 0) || !has (B.getD (P.getD i 0).toNat []) x)
def topsTo (B : List (List Int)) (P : List Int) (x : Int) : Nat → Nat
  | 0 => 0
  | k + 1 => topsTo B P x k + (if topB B P x k = true then 1 else 0)
end
def DecOk (N : Net) (B : List (List Int)) (P : List Int) : Prop := netOk N = true ∧ BagsOk N.ts B P ∧ allL N.os (B.getD 0 []) = true ∧ (∀ t ∈ N.ts, Home B t.labels) ∧ ∀ x ∈ pickTo (labP N.ts) 100, topsTo B P x B.length ≤ 1
open Classical in
noncomputable def decB (N : Net) (B : List (List Int)) (P : List Int) : Bool := decide (DecOk N B P)
open Classical in
theorem decB_yes {N : Net} {B : List (List Int)} {P : List Int} (h : DecOk N B P) : decB N B P = true := decide_eq_true h
open Classical in
theorem decB_no {N : Net} {B : List (List Int)} {P : List Int} (h : ¬ DecOk N B P) : decB N B P = false := decide_eq_false h
open Classical in
noncomputable def bagsB (ts : List Ten) (B : List (List Int)) (P : List Int) : Bool := decide (BagsOk ts B P)
open Classical in
theorem bagsB_yes {ts : List Ten} {B : List (List Int)} {P : List Int} (h : BagsOk ts B P) : bagsB ts B P = true := decide_eq_true h
open Classical in
theorem bagsB_no {ts : List Ten} {B : List (List Int)} {P : List Int} (h : ¬ BagsOk ts B P) : bagsB ts B P = false := decide_eq_false h
structure DSz (m : Nat) (B : List (List Int)) (P : List Int) : Prop where
  b : B.length ≤ m
  e : ∀ b ∈ B, Sz m b
  p : Sz m P
def decA (B : List (List Int)) (P : List Int) : AV := .agg [.d (lists B), .d (ints P)]
attribute [go_sem] decA
end Go.Proofs.Ytjoopfojiiklnaa
