/-
  Plain: decompositions: bags, homes, tops. No condition.
-/
import Derived.Test.YtcgnehacihjnkaaEliA
import Derived.Test.YtcgnehacihjnkaaNetE
namespace Go.Proofs.Ytcgnehacihjnkaa
open Go.RowKit Go.Lift Plain
set_option linter.unusedSimpArgs false
set_option linter.unusedVariables false
set_option maxRecDepth 100000

def allL (a b : List Int) : Bool := decide (∀ x ∈ a, x ∈ b)
section
variable {B : List (List Int)} {P : List Int} {ts : List Ten} {l : List Int} {x : Int} {n k : Nat}
def Home (B : List (List Int)) (l : List Int) : Prop := ∃ k, ∃ hk : k < B.length, allL l B[k] = true
def PrOk (P : List Int) (i : Nat) : Prop := (i = 0 → P.getD 0 0 = -1) ∧ (0 < i → 0 ≤ P.getD i 0 ∧ P.getD i 0 < i)
def BgOk (ts : List Ten) (b : List Int) : Prop := ∀ i (h : i < b.length), dimN ts b[i] ≠ 0 ∧ (0 < i → b.getD (i - 1) 0 < b[i])
def BagsOk (ts : List Ten) (B : List (List Int)) (P : List Int) : Prop := (1 ≤ B.length ∧ B.length ≤ 40) ∧ P.length = B.length ∧ ∀ i (h : i < B.length), PrOk P i ∧ BgOk ts B[i]
def topB (B : List (List Int)) (P : List Int) (x : Int) (i : Nat) : Bool := has (B.getD i []) x && (decide (i = 0) || !has (B.getD (P.getD i 0).toNat []) x)
def topsTo (B : List (List Int)) (P : List Int) (x : Int) : Nat → Nat
  | 0 => 0
  | k + 1 => topsTo B P x k + (if topB B P x k = true then 1 else 0)
end
def DecOk (N : Net) (B : List (List Int)) (P : List Int) : Prop := netOk N = true ∧ BagsOk N.ts B P ∧ allL N.os (B.getD 0 []) = true ∧ (∀ t ∈ N.ts, Home B t.labels) ∧ ∀ x ∈ pickTo (labP N.ts) 100, topsTo B P x B.length ≤ 1
open Classical in
noncomputable def decB (N : Net) (B : List (List Int)) (P : List Int) : Bool := decide (DecOk N B P)
open Classical in
theorem decB_yes {N : Net} {B : List (List Int)} {P : List Int} (h : DecOk N B P) : decB N B P = true := decide_eq_true h
open Classical in
theorem decB_no {N : Net} {B : List (List Int)} {P : List Int} (h : ¬ DecOk N B P) : decB N B P = false := decide_eq_false h
open Classical in
noncomputable def bagsB (ts : List Ten) (B : List (List Int)) (P : List Int) : Bool := decide (BagsOk ts B P)
open Classical in
theorem bagsB_yes {ts : List Ten} {B : List (List Int)} {P : List Int} (h : BagsOk ts B P) : bagsB ts B P = true := decide_eq_true h
open Classical in
theorem bagsB_no {ts : List Ten} {B : List (List Int)} {P : List Int} (h : ¬ BagsOk ts B P) : bagsB ts B P = false := decide_eq_false h
structure DSz (m : Nat) (B : List (List Int)) (P : List Int) : Prop where
  b : B.length ≤ m
  e : ∀ b ∈ B, Sz m b
  p : Sz m P
def decA (B : List (List Int)) (P : List Int) : AV := .agg [.d (lists B), .d (ints P)]
attribute [go_sem] decA
end Go.Proofs.Ytcgnehacihjnkaa

/-
  Contracts: lists of lists of ints and decompositions in a law: sizes, copies, comparisons. No condition.
-/
namespace Go.Proofs.Ytcgnehacihjnkaa
open Go.RowKit Go.Lift Plain
set_option linter.unusedSimpArgs false
set_option linter.unusedVariables false
set_option maxRecDepth 100000

def mixS (L : List (List Int)) (k : Nat) : List AV := lsA (L.take k) ++ List.replicate (L.length - k) .nil
theorem zeros_nil (n : Nat) : Go.Lift.zeros n [.nil] = List.replicate n .nil := by
  induction n with
  | zero => rfl
  | succ n ih => rw [zeros_succ, ih, List.replicate_succ]; rfl
theorem rnL_nils (ρ : Nat → Option Nat) (n : Nat) : rnL ρ (List.replicate n .nil) = List.replicate n .nil := by
  induction n with
  | zero => rfl
  | succ n ih => simp only [List.replicate_succ, rnL, rn, ih]
theorem rnL_app (ρ : Nat → Option Nat) : ∀ a b : List AV, rnL ρ (a ++ b) = rnL ρ a ++ rnL ρ b
  | [], b => rfl
  | x :: a, b => by simp only [List.cons_append, rnL, rnL_app ρ a b]
section
variable {L : List (List Int)} {k : Nat}
theorem rnL_mixS (ρ : Nat → Option Nat) : rnL ρ (mixS L k) = mixS L k := by rw [mixS, rnL_app, rnL_lsA, rnL_nils]
theorem all_cut {l : List AV} {p : AV → Bool} {a b : Nat} (h : l.all p = true) : ((l.drop a).take b).all p = true := by
  rw [List.all_eq_true] at *
  exact fun x hx => h x (List.mem_of_mem_drop (List.mem_of_mem_take hx))
theorem lsA_tr (L : List (List Int)) : (lsA L).all trB = true := by
  rw [List.all_eq_true]
  intro x hx
  obtain ⟨l, _, rfl⟩ := List.mem_map.1 hx
  rfl
theorem nils_tr (n : Nat) : (List.replicate n AV.nil).all trB = true := by
  rw [List.all_eq_true]
  intro x hx
  rw [List.eq_of_mem_replicate hx]
  rfl
theorem mixS_tr {a b : Nat} : (((mixS L k).drop a).take b).all trB = true := all_cut (by rw [mixS, List.all_append, lsA_tr, nils_tr]; rfl)
theorem mixS_zero : mixS L 0 = List.replicate L.length .nil := by simp [mixS, lsA]
theorem mixS_all (h : L.length ≤ k) : mixS L k = lsA L := by
  rw [mixS, List.take_of_length_le h, show L.length - k = 0 by omega]
  simp
theorem mixS_len (h : k ≤ L.length) : (mixS L k).length = L.length := by
  rw [mixS, List.length_append, lsA_len, List.length_take, List.length_replicate]
  omega
theorem mixS_next (h : k < L.length) : (mixS L k).take k ++ [.d (.sl L[k].length (dv L[k]))] ++ (mixS L k).drop (k + 1) = mixS L (k + 1) := by
  have hl : (lsA (L.take k)).length = k := by rw [lsA_len, List.length_take]; omega
  have e1 : (mixS L k).take k = lsA (L.take k) := by rw [mixS, List.take_append_of_le_length (by omega), List.take_of_length_le (by omega)]
  have e2 : (mixS L k).drop (k + 1) = List.replicate (L.length - (k + 1)) .nil := by
    rw [mixS, List.drop_append, List.drop_of_length_le (by omega), List.nil_append, hl, List.drop_replicate]
    congr 1
    omega
  rw [e1, e2, lsA_snoc, ← take_ss h]
  rfl
end
attribute [go_sem] rnL_nils rnL_mixS mixS_len
end Go.Proofs.Ytcgnehacihjnkaa
