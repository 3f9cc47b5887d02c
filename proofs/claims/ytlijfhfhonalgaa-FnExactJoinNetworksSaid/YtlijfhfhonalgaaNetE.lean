/-
  Contracts: labels, uses, neighbours, closed labels. No condition.
-/
import Derived.Test.YtlijfhfhonalgaaMgJoinNetworksA
import Derived.Test.YtlijfhfhonalgaaNetC
import Derived.Test.YtlijfhfhonalgaaPlB0
namespace Go.Proofs.Ytlijfhfhonalgaa
open Go.RowKit Go.Lift Plain
set_option linter.unusedSimpArgs false
set_option linter.unusedVariables false
set_option maxRecDepth 100000

def pickTo (p : Nat → Bool) (n : Nat) : List Int := ((List.range n).filter p).map fun (i : Nat) => (i : Int)
theorem pickTo_zero (p : Nat → Bool) : pickTo p 0 = [] := rfl
theorem pickTo_yes {p : Nat → Bool} {k : Nat} (h : p k = true) : pickTo p (k + 1) = pickTo p k ++ [(k : Int)] := by simp [pickTo, List.range_succ, h]
theorem pickTo_no {p : Nat → Bool} {k : Nat} (h : p k = false) : pickTo p (k + 1) = pickTo p k := by simp [pickTo, List.range_succ, h]
theorem pickTo_len (p : Nat → Bool) (k : Nat) : (pickTo p k).length ≤ k := by
  rw [pickTo, List.length_map]
  exact Nat.le_trans (List.length_filter_le _ _) (by simp)
def labP (ts : List Ten) (i : Nat) : Bool := dimN ts i != 0
noncomputable def labelsL (N : Net) : List Int := if netOk N = true then pickTo (labP N.ts) 100 else []
theorem occurring_d {D : List Int} {ts : List Ten} (hD : D.length = 100) (hat : ∀ x, 0 ≤ x ∧ x ≤ 99 → atT D x = dimN ts x) :
    Does Try.prog 87 [.agg (iv D)] [] (.own 0 0 (pickTo (labP ts) 100).length) [some ⟨1, true, iv (pickTo (labP ts) 100)⟩] := by
  have htD : List.take 100 D = D := List.take_of_length_le (by omega)
  (refine spec_of (by kernel_rfl) Try.func87 k_impl_occurring (fnOk (Nat.le_of_ble_eq_true rfl) ?_); unfold C_impl_occurring)
  (simp only [Nat.reduceSub, List.length_cons, List.length_nil, Nat.reduceAdd, ch_init1]; try simp only [ch_rep]); (simp only [go_sem, seval, reduceCtorEq, List.replicate, hD, htD])
  (refine wpN_lwk (Wk.nilE 3 1 _ _ rfl) ?_; simp only [go_sem, seval, reduceCtorEq])
  refine wpN_lp (100) [false, false, false, false, true, true, false, false, true, true, true, true, true, true, true, true, true, true, false] (fun k => [(3, .own 1 0 (pickTo (labP ts) k).length), (7, .d (.int k))]) (fun k => [(1, iv (pickTo (labP ts) k))]) (fun _ => by (simp only [go_sem, seval, reduceCtorEq, dropF_ch, dropF_cons, dropF_nil, cut, cond_true, cond_false]); first | done | rfl) (fun _ => by (simp only [go_sem, seval, reduceCtorEq, cut]); first | done | rfl) (Nat.le_of_ble_eq_true rfl) (by first | (simp only [go_sem, seval, reduceCtorEq, dropF_ch, dropF_cons, dropF_nil, cut, cond_true, cond_false, Int.natCast_zero, Int.natCast_add, Int.natCast_one, pickTo_zero, iv_nil]; done) | rfl | (simp only [go_sem, seval, reduceCtorEq, dropF_ch, dropF_cons, dropF_nil, cut, cond_true, cond_false, Int.natCast_zero, Int.natCast_add, Int.natCast_one, pickTo_zero, iv_nil]; rfl)) (by first | (simp only [go_sem, seval, reduceCtorEq, dropF_ch, dropF_cons, dropF_nil, cut, cond_true, cond_false, Int.natCast_zero, Int.natCast_add, Int.natCast_one, pickTo_zero, iv_nil]; done) | rfl | (simp only [go_sem, seval, reduceCtorEq, dropF_ch, dropF_cons, dropF_nil, cut, cond_true, cond_false, Int.natCast_zero, Int.natCast_add, Int.natCast_one, pickTo_zero, iv_nil]; rfl)) fun k hk => ?_
  unfold L0_impl_occurring
  have hpl := pickTo_len (labP ts) k
  by_cases hlt : k < 100
  · have d1 : (k : Int) < 100 := by omega
    have g : D[k]? = some (dimN ts k) := by
      have := atT_get hD (x := k) (by omega)
      rw [hat _ (by omega)] at this
      simpa using this
    cases hp : labP ts k
    · have c : (dimN ts k != 0) = false := hp
      simp (disch := omega) only [go_sem, seval, reduceCtorEq, d1, g, c]
      (refine Next.drop [false, false, false, false, true, true, false, false, true, true, true, true, true, true, true, true, true, true, false] (by omega) (Nat.le_of_ble_eq_true rfl) ?_ ?_ <;> first | (simp only [go_sem, seval, reduceCtorEq, dropF_ch, dropF_cons, dropF_nil, cut, cond_true, cond_false, Int.natCast_zero, Int.natCast_add, Int.natCast_one, pickTo_no hp]; done) | rfl | (simp only [go_sem, seval, reduceCtorEq, dropF_ch, dropF_cons, dropF_nil, cut, cond_true, cond_false, Int.natCast_zero, Int.natCast_add, Int.natCast_one, pickTo_no hp]; rfl) | skip)
    · have c : (dimN ts k != 0) = true := hp
      simp (disch := omega) only [go_sem, seval, reduceCtorEq, d1, g, c]
      refine ⟨by omega, ?_⟩
      (refine Next.drop [false, false, false, false, true, true, false, false, true, true, true, true, true, true, true, true, true, true, false] (by omega) (Nat.le_of_ble_eq_true rfl) ?_ ?_ <;> first | (simp only [go_sem, seval, reduceCtorEq, dropF_ch, dropF_cons, dropF_nil, cut, cond_true, cond_false, Int.natCast_zero, Int.natCast_add, Int.natCast_one, pickTo_yes hp, List.length_append]; done) | rfl | (simp only [go_sem, seval, reduceCtorEq, dropF_ch, dropF_cons, dropF_nil, cut, cond_true, cond_false, Int.natCast_zero, Int.natCast_add, Int.natCast_one, pickTo_yes hp, List.length_append]; rfl) | skip)
  · have d1 : ¬ (k : Int) < 100 := by omega
    obtain rfl : k = 100 := by omega
    simp (disch := omega) only [go_sem, seval, reduceCtorEq, d1]
    (refine FnEnd.mk (Nat.le_of_ble_eq_true rfl) rfl (of_decide_eq_true rfl) ?_ ?_ <;> try simp only [go_sem, seval, reduceCtorEq])
theorem iLabelsOf_d {N : Net} (h : NSz 1048576 N) : Does Try.prog 63 [netA N] [] (.own 0 0 (labelsL N).length) [some ⟨1, true, iv (labelsL N)⟩] := by
  (refine spec_of (by kernel_rfl) Try.func63 k_impl_LabelsOf (fnOk (Nat.le_of_ble_eq_true rfl) ?_); unfold C_impl_LabelsOf)
  (simp only [Nat.reduceSub, List.length_cons, List.length_nil, Nat.reduceAdd, ch_init1, ch_init2, ch_init3, ch_init4, ch_init5, ch_init6, ch_init7, ch_init8]; try simp only [ch_rep]); (simp only [go_sem, seval, reduceCtorEq, List.replicate])
  (refine ti_call (iNetworkOk_d h) ?_ ?_ ?_; (focus (simp only [go_sem, seval, reduceCtorEq]; done)); (first | rfl | (focus (simp only [go_sem]; done))))
  cases h1 : netOk N
  · have e : labelsL N = [] := by simp [labelsL, h1]
    simp only [go_sem, seval, reduceCtorEq, h1, e]
    refine FnEnd.wk (Wk.nilE 2 1 _ _ rfl) ?_
    (refine FnEnd.mk (Nat.le_of_ble_eq_true rfl) rfl (of_decide_eq_true rfl) ?_ ?_ <;> try simp only [go_sem, seval, reduceCtorEq])
  have e : labelsL N = pickTo (labP N.ts) 100 := by simp [labelsL, h1]
  have hax := netOk_ax h1
  have hok := (dimsR_ok hax).1.2 (netOk_iff.1 h1).2.2.2.1
  have hat := (dimsR_ok hax).2 hok
  have hRl := dimsR_len N.ts
  have htR : List.take 100 (dimsR N.ts).1 = (dimsR N.ts).1 := List.take_of_length_le (by omega)
  have hdr : List.drop 100 (repI 100 0) = [] := List.drop_of_length_le (by rw [repI_len]; exact Nat.le_refl _)
  simp only [go_sem, seval, reduceCtorEq, h1]
  (refine ti_call (dimsOf_d (ts := N.ts) h.l h.t hax) ?_ ?_ ?_; (focus (simp only [go_sem, seval, reduceCtorEq]; done)); (first | rfl | (focus (simp only [go_sem]; done))))
  simp (disch := omega) only [go_sem, seval, reduceCtorEq, hdr, hRl, htR]
  (refine ti_call (occurring_d hRl hat) ?_ ?_ ?_; (focus (simp only [go_sem, seval, reduceCtorEq]; done)); (first | rfl | (focus (simp only [go_sem]; done))))
  simp only [go_sem, seval, reduceCtorEq, e]
  (refine FnEnd.mk (Nat.le_of_ble_eq_true rfl) rfl (of_decide_eq_true rfl) ?_ ?_ <;> try simp only [go_sem, seval, reduceCtorEq])
theorem l12Labels_d {ts : List Ten} (h : ts.length ≤ 1048576) (ht : ∀ t ∈ ts, TSz 1048576 t) (hax : axOks ts) : Does Try.prog 59 [.d (tens ts)] [] (.own 0 0 (pickTo (labP ts) 100).length) [some ⟨1, true, iv (pickTo (labP ts) 100)⟩] := by
  (refine spec_of (by kernel_rfl) Try.func59 k_spec_l12Labels (fnOk (Nat.le_of_ble_eq_true rfl) ?_); unfold C_spec_l12Labels)
  (simp only [Nat.reduceSub, List.length_cons, List.length_nil, Nat.reduceAdd, ch_init1, ch_init2, ch_init3, ch_init4, ch_init5, ch_init6, ch_init7, ch_init8]; try simp only [ch_rep]); (simp only [go_sem, seval, reduceCtorEq, List.replicate])
  refine wpN_lp (100) [false, false, false, false, false, true, true, true, true, true, true, true, true, true, true, true, true, true, false] (fun k => [(3, .own 0 0 (pickTo (labP ts) k).length), (4, .d (.int k))]) (fun k => [(0, iv (pickTo (labP ts) k))]) (fun _ => by (simp only [go_sem, seval, reduceCtorEq, dropF_ch, dropF_cons, dropF_nil, cut, cond_true, cond_false]); first | done | rfl) (fun _ => by (simp only [go_sem, seval, reduceCtorEq, cut]); first | done | rfl) (Nat.le_of_ble_eq_true rfl) (by first | (simp only [go_sem, seval, reduceCtorEq, dropF_ch, dropF_cons, dropF_nil, cut, cond_true, cond_false, Int.natCast_zero, Int.natCast_add, Int.natCast_one, pickTo_zero, iv_nil]; done) | rfl | (simp only [go_sem, seval, reduceCtorEq, dropF_ch, dropF_cons, dropF_nil, cut, cond_true, cond_false, Int.natCast_zero, Int.natCast_add, Int.natCast_one, pickTo_zero, iv_nil]; rfl)) (by first | (simp only [go_sem, seval, reduceCtorEq, dropF_ch, dropF_cons, dropF_nil, cut, cond_true, cond_false, Int.natCast_zero, Int.natCast_add, Int.natCast_one, pickTo_zero, iv_nil]; done) | rfl | (simp only [go_sem, seval, reduceCtorEq, dropF_ch, dropF_cons, dropF_nil, cut, cond_true, cond_false, Int.natCast_zero, Int.natCast_add, Int.natCast_one, pickTo_zero, iv_nil]; rfl)) fun k hk => ?_
  unfold L0_spec_l12Labels
  have hpl := pickTo_len (labP ts) k
  have hbd := dimN_bd hax k
  by_cases hlt : k < 100
  · have d1 : (k : Int) ≤ 99 := by omega
    simp (disch := omega) only [go_sem, seval, reduceCtorEq, d1]
    (refine ti_call (l12Dim_d (ts := ts) (x := k) h ht hax) ?_ ?_ ?_; (focus (simp only [go_sem, seval, reduceCtorEq]; done)); (first | rfl | (focus (simp only [go_sem]; done))))
    cases hp : labP ts k
    · have c' : dimN ts k = 0 := by simpa [labP] using hp
      have c : ¬ dimN ts k > 0 := by omega
      simp (disch := omega) only [go_sem, seval, reduceCtorEq, c]
      (refine Next.drop [false, false, false, false, false, true, true, true, true, true, true, true, true, true, true, true, true, true, false] (by omega) (Nat.le_of_ble_eq_true rfl) ?_ ?_ <;> first | (simp only [go_sem, seval, reduceCtorEq, dropF_ch, dropF_cons, dropF_nil, cut, cond_true, cond_false, Int.natCast_zero, Int.natCast_add, Int.natCast_one, pickTo_no hp]; done) | rfl | (simp only [go_sem, seval, reduceCtorEq, dropF_ch, dropF_cons, dropF_nil, cut, cond_true, cond_false, Int.natCast_zero, Int.natCast_add, Int.natCast_one, pickTo_no hp]; rfl) | skip)
    · have c' : dimN ts k ≠ 0 := by simpa [labP] using hp
      have c : dimN ts k > 0 := by omega
      simp (disch := omega) only [go_sem, seval, reduceCtorEq, c]
      refine ⟨by omega, ?_⟩
      (refine Next.drop [false, false, false, false, false, true, true, true, true, true, true, true, true, true, true, true, true, true, false] (by omega) (Nat.le_of_ble_eq_true rfl) ?_ ?_ <;> first | (simp only [go_sem, seval, reduceCtorEq, dropF_ch, dropF_cons, dropF_nil, cut, cond_true, cond_false, Int.natCast_zero, Int.natCast_add, Int.natCast_one, pickTo_yes hp, List.length_append]; done) | rfl | (simp only [go_sem, seval, reduceCtorEq, dropF_ch, dropF_cons, dropF_nil, cut, cond_true, cond_false, Int.natCast_zero, Int.natCast_add, Int.natCast_one, pickTo_yes hp, List.length_append]; rfl) | skip)
  · have d1 : ¬ (k : Int) ≤ 99 := by omega
    obtain rfl : k = 100 := by omega
    simp (disch := omega) only [go_sem, seval, reduceCtorEq, d1]
    (refine FnEnd.mk (Nat.le_of_ble_eq_true rfl) rfl (of_decide_eq_true rfl) ?_ ?_ <;> try simp only [go_sem, seval, reduceCtorEq])
end Go.Proofs.Ytlijfhfhonalgaa
