/-
  Contracts: lists of lists of ints and decompositions in a law: sizes, copies, comparisons. No condition.
-/
import Derived.Test.YtjoopfojiiklnaaMgPartsOfA
import Derived.Test.YtjoopfojiiklnaaPlD
namespace Go.Proofs.Ytjoopfojiiklnaa
open Go.RowKit Go.Lift Plain
set_option linter.unusedSimpArgs false
set_option linter.unusedVariables false
set_option maxRecDepth 100000

def totL : List (List Int) → Nat
  | [] => 0
  | b :: l => b.length + totL l
theorem totL_app : ∀ (a b : List (List Int)), totL (a ++ b) = totL a + totL b
  | [], b => by simp [totL]
  | t :: l, b => by simp [totL, totL_app l b, Nat.add_assoc]
theorem totL_next {L : List (List Int)} {k : Nat} (hk : k < L.length) : totL (L.take (k + 1)) = totL (L.take k) + L[k].length := by
  rw [take_ss hk, totL_app]; simp [totL]
theorem totL_take (L : List (List Int)) (k : Nat) : totL (L.take k) ≤ totL L := by
  have := congrArg totL (List.take_append_drop k L)
  rw [totL_app] at this
  omega
def mixS (L : List (List Int)) (k : Nat) : List AV := lsA (L.take k) ++ List.replicate (L.length - k) .nil
theorem rnL_nils (ρ : Nat → Option Nat) (n : Nat) : rnL ρ (List.replicate n .nil) = List.replicate n .nil := by
  induction n with
  | zero => rfl
  | succ n ih => simp only [List.replicate_succ, rnL, rn, ih]
theorem rnL_app (ρ : Nat → Option Nat) : ∀ a b : List AV, rnL ρ (a ++ b) = rnL ρ a ++ rnL ρ b
  | [], b => rfl
  | x :: a, b => by simp only [List.cons_append, rnL, rnL_app ρ a b]
section
variable {L : List (List Int)} {k : Nat}
theorem rnL_mixS (ρ : Nat → Option Nat) : rnL ρ (mixS L k) = mixS L k := by rw [mixS, rnL_app, rnL_lsA, rnL_nils]
theorem mixS_len (h : k ≤ L.length) : (mixS L k).length = L.length := by
  rw [mixS, List.length_append, lsA_len, List.length_take, List.length_replicate]
  omega
end
attribute [go_sem] rnL_nils rnL_mixS mixS_len
theorem eqIntSS_d {L : List (List Int)} (h : L.length ≤ 1048576) (hb : ∀ b ∈ L, Sz 1048576 b) : Does Try.prog 60 [.d (lists L), .d (lists L)] [] (.d (.bool true)) [] := by
  (refine spec_of (by kernel_rfl) Try.func60 k_laws_eqIntSS (fnOk (Nat.le_of_ble_eq_true rfl) ?_); unfold C_laws_eqIntSS)
  (simp only [Nat.reduceSub, List.length_cons, List.length_nil, Nat.reduceAdd, ch_init1, ch_init2, ch_init3, ch_init4, ch_init5, ch_init6, ch_init7, ch_init8]; try simp only [ch_rep]); (simp only [go_sem, seval, reduceCtorEq, List.replicate])
  refine wpN_lp (L.length) [false, false, false, false, true, false, false, false, false, false, false, true, true, true, true, true, true, true, true, true, true, true, true, true, true, true, true] (fun k => [(5, .d (.int k))]) (fun k => []) (fun _ => by (simp only [go_sem, seval, reduceCtorEq, dropF_ch, dropF_cons, dropF_nil, cut, cond_true, cond_false]); first | done | rfl) (fun _ => by (simp only [go_sem, seval, reduceCtorEq, cut]); first | done | rfl) (Nat.le_of_ble_eq_true rfl) (by first | (simp only [go_sem, seval, reduceCtorEq, dropF_ch, dropF_cons, dropF_nil, cut, cond_true, cond_false, Int.natCast_zero, Int.natCast_add, Int.natCast_one]; done) | rfl | (simp only [go_sem, seval, reduceCtorEq, dropF_ch, dropF_cons, dropF_nil, cut, cond_true, cond_false, Int.natCast_zero, Int.natCast_add, Int.natCast_one]; rfl)) (by first | (simp only [go_sem, seval, reduceCtorEq, dropF_ch, dropF_cons, dropF_nil, cut, cond_true, cond_false, Int.natCast_zero, Int.natCast_add, Int.natCast_one]; done) | rfl | (simp only [go_sem, seval, reduceCtorEq, dropF_ch, dropF_cons, dropF_nil, cut, cond_true, cond_false, Int.natCast_zero, Int.natCast_add, Int.natCast_one]; rfl)) fun k hk => ?_
  unfold L0_laws_eqIntSS
  by_cases hlt : k < L.length
  · have d1 : (k : Int) < L.length := by omega
    have g : L[k]? = some L[k] := List.getElem?_eq_getElem hlt
    have hst := hb L[k] (List.getElem_mem hlt)
    simp (disch := omega) only [go_sem, seval, reduceCtorEq, d1, g]
    (refine ti_call (eqIntS_d (xs := L[k]) (ys := L[k]) hst.up.len) ?_ ?_ ?_; (focus (simp only [go_sem, seval, reduceCtorEq]; done)); (first | rfl | (focus (simp only [go_sem]; done))))
    simp (disch := omega) only [go_sem, seval, reduceCtorEq, decide_true]
    (refine Next.drop [false, false, false, false, true, false, false, false, false, false, false, true, true, true, true, true, true, true, true, true, true, true, true, true, true, true, true] (by omega) (Nat.le_of_ble_eq_true rfl) ?_ ?_ <;> first | (simp only [go_sem, seval, reduceCtorEq, dropF_ch, dropF_cons, dropF_nil, cut, cond_true, cond_false, Int.natCast_zero, Int.natCast_add, Int.natCast_one]; done) | rfl | (simp only [go_sem, seval, reduceCtorEq, dropF_ch, dropF_cons, dropF_nil, cut, cond_true, cond_false, Int.natCast_zero, Int.natCast_add, Int.natCast_one]; rfl) | skip)
  · have d1 : ¬ (k : Int) < L.length := by omega
    simp (disch := omega) only [go_sem, seval, reduceCtorEq, d1]
    (refine FnEnd.mk (Nat.le_of_ble_eq_true rfl) rfl (of_decide_eq_true rfl) ?_ ?_ <;> try simp only [go_sem, seval, reduceCtorEq])
end Go.Proofs.Ytjoopfojiiklnaa
