/-
  Contracts: sums of elements, tensors aligned and joined. No condition.
-/
import Derived.Test.YtcgnehacihjnkaaMgBestCostA
import Derived.Test.YtcgnehacihjnkaaConR
namespace Go.Proofs.Ytcgnehacihjnkaa
open Go.RowKit Go.Lift Plain
set_option linter.unusedSimpArgs false
set_option linter.unusedVariables false
set_option maxRecDepth 100000

/-! ### Sums -/
theorem add1_k {r : Rg} (a b : Int) : (r.k = 1 ∨ r.k = 5 → add1 r a b = max a b) ∧ (r.k = 3 → add1 r a b = min (a + b) r.p) ∧ (r.k = 4 → add1 r a b = min a b) ∧ (r.k = 6 → add1 r a b = orI a b) ∧ (r.k = 2 ∨ r.k = 7 ∨ r.k = 8 → add1 r a b = (a + b).tmod r.p) := by
  unfold add1
  refine ⟨fun h => ?_, fun h => ?_, fun h => ?_, fun h => ?_, fun h => ?_⟩
  · rw [if_pos h]
  · rw [if_neg (by omega), if_pos h]
  · rw [if_neg (by omega), if_neg (by omega), if_pos h]
  · rw [if_neg (by omega), if_neg (by omega), if_neg (by omega), if_pos h]
  · rw [if_neg (by omega), if_neg (by omega), if_neg (by omega), if_neg (by omega)]
set_option maxHeartbeats 1600000 in
theorem l02Add_d {kk pp nn : Int} {x y : List Int} {wd : Nat} (hr : ringOk ⟨kk, pp, nn⟩ = true) (hw : width ⟨kk, pp, nn⟩ = wd) (hx : fits ⟨kk, pp, nn⟩ x) (hy : fits ⟨kk, pp, nn⟩ y) (lx : x.length = wd) (ly : y.length = wd) :
    Does Try.prog 158 [ringA kk pp nn, .d (ints x), .d (ints y)] [] (.own 0 0 wd) [some ⟨1, true, iv (addE ⟨kk, pp, nn⟩ x y)⟩] := by
  have hwb := width_bd hr
  have htb := top_bd hr
  have hor : ∀ a b : Int, IntKind.i64.wrap (BitVec.ofInt 64 a ||| BitVec.ofInt 64 b).toNat = orI a b := fun _ _ => rfl
  have hal := addE_len (r := ⟨kk, pp, nn⟩) lx ly
  have hrl : (List.replicate wd (0 : Int)).length = wd := by simp
  have hml : (addE ⟨kk, pp, nn⟩ x y).length = (List.replicate wd (0 : Int)).length := by rw [hal, hrl]
  have hlow := fun h => (elem_low (r := ⟨kk, pp, nn⟩) hr hx h).2
  simp only at hlow
  (refine spec_of (by kernel_rfl) Try.func158 k_spec_l02Add (fnOk (Nat.le_of_ble_eq_true rfl) ?_); unfold C_spec_l02Add)
  (simp only [Nat.reduceSub, List.length_cons, List.length_nil, Nat.reduceAdd, ch_init1, ch_init2, ch_init3, ch_init4, ch_init5, ch_init6, ch_init7, ch_init8]; try simp only [ch_rep]); (simp only [go_sem, seval, reduceCtorEq, List.replicate])
  refine ⟨by omega, ?_⟩
  refine wpN_lp (wd) [false, false, false, false, false, false, false, false, true, false, false, false, false, false, false, true, true, true, true, true, true, true, true, true, true, true, true, true, true, true, true, true, true, true, true, true, true, true, true, true, true, true, true, true, true, true, true, true, true, true, true, true, true, true, true, true, true, true, true, true, true, true, true, true, true, true, true, true, true, true, true, true, true, true, true, true, true, true, true, true, true, true, true, true, true, true, true, true, true, true, true, true, true, true, true, false] (fun k => [(14, .d (.int k))]) (fun k => [(1, iv (mix (addE ⟨kk, pp, nn⟩ x y) (List.replicate wd 0) k))]) (fun _ => by (simp only [go_sem, seval, reduceCtorEq, dropF_ch, dropF_cons, dropF_nil, cut, cond_true, cond_false]); first | done | rfl) (fun _ => by (simp only [go_sem, seval, reduceCtorEq, cut]); first | done | rfl) (Nat.le_of_ble_eq_true rfl) (by first | (simp only [go_sem, seval, reduceCtorEq, dropF_ch, dropF_cons, dropF_nil, cut, cond_true, cond_false, Int.natCast_zero, Int.natCast_add, Int.natCast_one, mix_zero, lx]; done) | rfl | (simp only [go_sem, seval, reduceCtorEq, dropF_ch, dropF_cons, dropF_nil, cut, cond_true, cond_false, Int.natCast_zero, Int.natCast_add, Int.natCast_one, mix_zero, lx]; rfl)) (by first | (simp only [go_sem, seval, reduceCtorEq, dropF_ch, dropF_cons, dropF_nil, cut, cond_true, cond_false, Int.natCast_zero, Int.natCast_add, Int.natCast_one, mix_zero, lx]; done) | rfl | (simp only [go_sem, seval, reduceCtorEq, dropF_ch, dropF_cons, dropF_nil, cut, cond_true, cond_false, Int.natCast_zero, Int.natCast_add, Int.natCast_one, mix_zero, lx]; rfl)) fun k hk => ?_
  unfold L0_spec_l02Add
  have hmk : (mix (addE ⟨kk, pp, nn⟩ x y) (List.replicate wd 0) k).length = wd := by rw [mix_len hml, hal]
  by_cases hlt : k < wd
  · have d1 : (k : Int) < x.length := by omega
    have d2 : (k : Int) < y.length := by omega
    have d3 : (k : Int) < wd := by omega
    have hkx : k < x.length := by omega
    have hky : k < y.length := by omega
    have gx : x[k]? = some x[k] := List.getElem?_eq_getElem hkx
    have gy : y[k]? = some y[k] := List.getElem?_eq_getElem hky
    have bx := hx k hkx
    have bY := hy k hky
    rw [getD_of hkx] at bx
    rw [getD_of hky] at bY
    have hm := mix_next hml (addE_get (r := ⟨kk, pp, nn⟩) hkx hky)
    obtain ⟨a1, a2, a3, a4, a5⟩ := add1_k (r := ⟨kk, pp, nn⟩) x[k] y[k]
    simp only at a1 a2 a3 a4 a5
    generalize hae : x[k] = a at *
    generalize hbe : y[k] = b at *
    rcases ringOk_cases hr with h | h | h | h | h | h | h | h <;> simp only at h <;> obtain ⟨rfl, h⟩ := h
    · have ho : orI a b = max a b := by simp only [top, if_true] at bx bY; exact or_bit bx bY
      simp (disch := omega) only [go_sem, seval, reduceCtorEq, lx, ly, d1, d2, d3, gx, gy, hor, ho, ← a1 (.inl rfl)]
      refine ⟨by omega, ?_⟩
      (refine Next.drop [false, false, false, false, false, false, false, false, true, false, false, false, false, false, false, true, true, true, true, true, true, true, true, true, true, true, true, true, true, true, true, true, true, true, true, true, true, true, true, true, true, true, true, true, true, true, true, true, true, true, true, true, true, true, true, true, true, true, true, true, true, true, true, true, true, true, true, true, true, true, true, true, true, true, true, true, true, true, true, true, true, true, true, true, true, true, true, true, true, true, true, true, true, true, true, false] (by omega) (Nat.le_of_ble_eq_true rfl) ?_ ?_ <;> first | (simp only [go_sem, seval, reduceCtorEq, dropF_ch, dropF_cons, dropF_nil, cut, cond_true, cond_false, Int.natCast_zero, Int.natCast_add, Int.natCast_one, hm]; done) | rfl | (simp only [go_sem, seval, reduceCtorEq, dropF_ch, dropF_cons, dropF_nil, cut, cond_true, cond_false, Int.natCast_zero, Int.natCast_add, Int.natCast_one, hm]; rfl) | skip)
    · have hp := hlow (.inl rfl)
      have hp0 : pp ≠ 0 := by omega
      simp (disch := omega) only [go_sem, seval, reduceCtorEq, lx, ly, d1, d2, d3, gx, gy, hp0, ne_eq, not_false_eq_true, ← a5 (.inl rfl)]
      refine ⟨by omega, ?_⟩
      (refine Next.drop [false, false, false, false, false, false, false, false, true, false, false, false, false, false, false, true, true, true, true, true, true, true, true, true, true, true, true, true, true, true, true, true, true, true, true, true, true, true, true, true, true, true, true, true, true, true, true, true, true, true, true, true, true, true, true, true, true, true, true, true, true, true, true, true, true, true, true, true, true, true, true, true, true, true, true, true, true, true, true, true, true, true, true, true, true, true, true, true, true, true, true, true, true, true, true, false] (by omega) (Nat.le_of_ble_eq_true rfl) ?_ ?_ <;> first | (simp only [go_sem, seval, reduceCtorEq, dropF_ch, dropF_cons, dropF_nil, cut, cond_true, cond_false, Int.natCast_zero, Int.natCast_add, Int.natCast_one, hm]; done) | rfl | (simp only [go_sem, seval, reduceCtorEq, dropF_ch, dropF_cons, dropF_nil, cut, cond_true, cond_false, Int.natCast_zero, Int.natCast_add, Int.natCast_one, hm]; rfl) | skip)
    · simp (disch := omega) only [go_sem, seval, reduceCtorEq, lx, ly, d1, d2, d3, gx, gy, ← a2 rfl]
      refine ⟨by omega, ?_⟩
      (refine Next.drop [false, false, false, false, false, false, false, false, true, false, false, false, false, false, false, true, true, true, true, true, true, true, true, true, true, true, true, true, true, true, true, true, true, true, true, true, true, true, true, true, true, true, true, true, true, true, true, true, true, true, true, true, true, true, true, true, true, true, true, true, true, true, true, true, true, true, true, true, true, true, true, true, true, true, true, true, true, true, true, true, true, true, true, true, true, true, true, true, true, true, true, true, true, true, true, false] (by omega) (Nat.le_of_ble_eq_true rfl) ?_ ?_ <;> first | (simp only [go_sem, seval, reduceCtorEq, dropF_ch, dropF_cons, dropF_nil, cut, cond_true, cond_false, Int.natCast_zero, Int.natCast_add, Int.natCast_one, hm]; done) | rfl | (simp only [go_sem, seval, reduceCtorEq, dropF_ch, dropF_cons, dropF_nil, cut, cond_true, cond_false, Int.natCast_zero, Int.natCast_add, Int.natCast_one, hm]; rfl) | skip)
    · simp (disch := omega) only [go_sem, seval, reduceCtorEq, lx, ly, d1, d2, d3, gx, gy, ← a3 rfl]
      refine ⟨by omega, ?_⟩
      (refine Next.drop [false, false, false, false, false, false, false, false, true, false, false, false, false, false, false, true, true, true, true, true, true, true, true, true, true, true, true, true, true, true, true, true, true, true, true, true, true, true, true, true, true, true, true, true, true, true, true, true, true, true, true, true, true, true, true, true, true, true, true, true, true, true, true, true, true, true, true, true, true, true, true, true, true, true, true, true, true, true, true, true, true, true, true, true, true, true, true, true, true, true, true, true, true, true, true, false] (by omega) (Nat.le_of_ble_eq_true rfl) ?_ ?_ <;> first | (simp only [go_sem, seval, reduceCtorEq, dropF_ch, dropF_cons, dropF_nil, cut, cond_true, cond_false, Int.natCast_zero, Int.natCast_add, Int.natCast_one, hm]; done) | rfl | (simp only [go_sem, seval, reduceCtorEq, dropF_ch, dropF_cons, dropF_nil, cut, cond_true, cond_false, Int.natCast_zero, Int.natCast_add, Int.natCast_one, hm]; rfl) | skip)
    · simp (disch := omega) only [go_sem, seval, reduceCtorEq, lx, ly, d1, d2, d3, gx, gy, ← a1 (.inr rfl)]
      refine ⟨by omega, ?_⟩
      (refine Next.drop [false, false, false, false, false, false, false, false, true, false, false, false, false, false, false, true, true, true, true, true, true, true, true, true, true, true, true, true, true, true, true, true, true, true, true, true, true, true, true, true, true, true, true, true, true, true, true, true, true, true, true, true, true, true, true, true, true, true, true, true, true, true, true, true, true, true, true, true, true, true, true, true, true, true, true, true, true, true, true, true, true, true, true, true, true, true, true, true, true, true, true, true, true, true, true, false] (by omega) (Nat.le_of_ble_eq_true rfl) ?_ ?_ <;> first | (simp only [go_sem, seval, reduceCtorEq, dropF_ch, dropF_cons, dropF_nil, cut, cond_true, cond_false, Int.natCast_zero, Int.natCast_add, Int.natCast_one, hm]; done) | rfl | (simp only [go_sem, seval, reduceCtorEq, dropF_ch, dropF_cons, dropF_nil, cut, cond_true, cond_false, Int.natCast_zero, Int.natCast_add, Int.natCast_one, hm]; rfl) | skip)
    · simp (disch := omega) only [go_sem, seval, reduceCtorEq, lx, ly, d1, d2, d3, gx, gy, hor, ← a4 rfl]
      refine ⟨by omega, ?_⟩
      (refine Next.drop [false, false, false, false, false, false, false, false, true, false, false, false, false, false, false, true, true, true, true, true, true, true, true, true, true, true, true, true, true, true, true, true, true, true, true, true, true, true, true, true, true, true, true, true, true, true, true, true, true, true, true, true, true, true, true, true, true, true, true, true, true, true, true, true, true, true, true, true, true, true, true, true, true, true, true, true, true, true, true, true, true, true, true, true, true, true, true, true, true, true, true, true, true, true, true, false] (by omega) (Nat.le_of_ble_eq_true rfl) ?_ ?_ <;> first | (simp only [go_sem, seval, reduceCtorEq, dropF_ch, dropF_cons, dropF_nil, cut, cond_true, cond_false, Int.natCast_zero, Int.natCast_add, Int.natCast_one, hm]; done) | rfl | (simp only [go_sem, seval, reduceCtorEq, dropF_ch, dropF_cons, dropF_nil, cut, cond_true, cond_false, Int.natCast_zero, Int.natCast_add, Int.natCast_one, hm]; rfl) | skip)
    · have hp := hlow (.inr (.inl rfl))
      have hp0 : pp ≠ 0 := by omega
      simp (disch := omega) only [go_sem, seval, reduceCtorEq, lx, ly, d1, d2, d3, gx, gy, hp0, ne_eq, not_false_eq_true, ← a5 (.inr (.inl rfl))]
      refine ⟨by omega, ?_⟩
      (refine Next.drop [false, false, false, false, false, false, false, false, true, false, false, false, false, false, false, true, true, true, true, true, true, true, true, true, true, true, true, true, true, true, true, true, true, true, true, true, true, true, true, true, true, true, true, true, true, true, true, true, true, true, true, true, true, true, true, true, true, true, true, true, true, true, true, true, true, true, true, true, true, true, true, true, true, true, true, true, true, true, true, true, true, true, true, true, true, true, true, true, true, true, true, true, true, true, true, false] (by omega) (Nat.le_of_ble_eq_true rfl) ?_ ?_ <;> first | (simp only [go_sem, seval, reduceCtorEq, dropF_ch, dropF_cons, dropF_nil, cut, cond_true, cond_false, Int.natCast_zero, Int.natCast_add, Int.natCast_one, hm]; done) | rfl | (simp only [go_sem, seval, reduceCtorEq, dropF_ch, dropF_cons, dropF_nil, cut, cond_true, cond_false, Int.natCast_zero, Int.natCast_add, Int.natCast_one, hm]; rfl) | skip)
    · have hp := hlow (.inr (.inr rfl))
      have hp0 : pp ≠ 0 := by omega
      simp (disch := omega) only [go_sem, seval, reduceCtorEq, lx, ly, d1, d2, d3, gx, gy, hp0, ne_eq, not_false_eq_true, ← a5 (.inr (.inr rfl))]
      refine ⟨by omega, ?_⟩
      (refine Next.drop [false, false, false, false, false, false, false, false, true, false, false, false, false, false, false, true, true, true, true, true, true, true, true, true, true, true, true, true, true, true, true, true, true, true, true, true, true, true, true, true, true, true, true, true, true, true, true, true, true, true, true, true, true, true, true, true, true, true, true, true, true, true, true, true, true, true, true, true, true, true, true, true, true, true, true, true, true, true, true, true, true, true, true, true, true, true, true, true, true, true, true, true, true, true, true, false] (by omega) (Nat.le_of_ble_eq_true rfl) ?_ ?_ <;> first | (simp only [go_sem, seval, reduceCtorEq, dropF_ch, dropF_cons, dropF_nil, cut, cond_true, cond_false, Int.natCast_zero, Int.natCast_add, Int.natCast_one, hm]; done) | rfl | (simp only [go_sem, seval, reduceCtorEq, dropF_ch, dropF_cons, dropF_nil, cut, cond_true, cond_false, Int.natCast_zero, Int.natCast_add, Int.natCast_one, hm]; rfl) | skip)
  · have d1 : ¬ (k : Int) < wd := by omega
    have hm : mix (addE ⟨kk, pp, nn⟩ x y) (List.replicate wd 0) k = addE ⟨kk, pp, nn⟩ x y := mix_full (by omega) (by omega)
    simp (disch := omega) only [go_sem, seval, reduceCtorEq, lx, d1, hm]
    (refine FnEnd.mk (Nat.le_of_ble_eq_true rfl) rfl (of_decide_eq_true rfl) ?_ ?_ <;> try simp only [go_sem, seval, reduceCtorEq])
set_option maxHeartbeats 1600000 in
theorem addInto_d {kk pp nn : Int} {xs y : List Int} {off wd : Nat} (hr : ringOk ⟨kk, pp, nn⟩ = true) (hw : width ⟨kk, pp, nn⟩ = wd) (hx : fits ⟨kk, pp, nn⟩ ((xs.drop off).take wd)) (hy : fits ⟨kk, pp, nn⟩ y) (ly : y.length = wd) (ho : off + wd ≤ xs.length) (hl : xs.length ≤ 1099511627776) :
    Does Try.prog 134 [ringA kk pp nn, .own 0 off wd, .d (ints y)] [some ⟨1, false, iv xs⟩] (.tup []) [some ⟨1, false, iv (putE xs off (addE ⟨kk, pp, nn⟩ ((xs.drop off).take wd) y))⟩] := by
  have hwb := width_bd hr
  have htb := top_bd hr
  have hor : ∀ a b : Int, IntKind.i64.wrap (BitVec.ofInt 64 a ||| BitVec.ofInt 64 b).toNat = orI a b := fun _ _ => rfl
  have lx : ((xs.drop off).take wd).length = wd := by rw [List.length_take, List.length_drop]; omega
  have hput0 : putE xs off ((xs.drop off).take wd) = xs := by
    unfold putE
    rw [lx, List.append_assoc, ← List.drop_drop, List.take_append_drop, List.take_append_drop]
  have hlow := fun h => (elem_low (r := ⟨kk, pp, nn⟩) hr hx h).2
  simp only at hlow
  generalize hcx : (xs.drop off).take wd = x at *
  have hal := addE_len (r := ⟨kk, pp, nn⟩) lx ly
  have hml : (addE ⟨kk, pp, nn⟩ x y).length = x.length := by rw [hal, lx]
  have hgx : ∀ k, k < wd → xs[off + k]? = some (x.getD k 0) := fun k hk => by
    have h1 := putE_at (xs := xs) (ys := x) (off := off) (k := k) (by omega) (by omega)
    rwa [hput0] at h1
  (refine spec_of (by kernel_rfl) Try.func134 k_impl_addInto (fnOk (Nat.le_of_ble_eq_true rfl) ?_); unfold C_impl_addInto)
  (simp only [Nat.reduceSub, List.length_cons, List.length_nil, Nat.reduceAdd, ch_init1, ch_init2, ch_init3, ch_init4, ch_init5, ch_init6, ch_init7, ch_init8]; try simp only [ch_rep]); (simp only [go_sem, seval, reduceCtorEq, List.replicate])
  by_cases hpoly : kk = 2 ∨ kk = 7 ∨ kk = 8
  · have hp := hlow hpoly
    have hp0 : pp ≠ 0 := by omega
    have k1 : (kk == 1) = false := by simp; omega
    have k3 : (kk == 3) = false := by simp; omega
    have k4 : (kk == 4) = false := by simp; omega
    have k5 : (kk == 5) = false := by simp; omega
    have k6 : (kk == 6) = false := by simp; omega
    simp (disch := omega) only [go_sem, seval, reduceCtorEq, k1, k3, k4, k5, k6]
    have hpm0 : putE xs off (mix (addE ⟨kk, pp, nn⟩ x y) x 0) = xs := by rw [mix_zero, hput0]
    refine wpN_lp (wd) [false, false, false, false, false, false, true, false, false, false, false, false, true, true, true, true, true, true, true, true, true, true, true, true, true, true, true, true, true, true, false, false, false, false, false, false, false, false, false, false, false, false, false, false, false, false, false, false, false, false, false, false, false, false, false, false, false, false, false, false, false, false, false, false, false, false, false, false, false, false, false, false, false, false, false, false, false] (fun k => [(11, .d (.int k))]) (fun k => [(0, iv (putE xs off (mix (addE ⟨kk, pp, nn⟩ x y) x k)))]) (fun _ => by (simp only [go_sem, seval, reduceCtorEq, dropF_ch, dropF_cons, dropF_nil, cut, cond_true, cond_false]); first | done | rfl) (fun _ => by (simp only [go_sem, seval, reduceCtorEq, cut]); first | done | rfl) (Nat.le_of_ble_eq_true rfl) (by first | (simp only [go_sem, seval, reduceCtorEq, dropF_ch, dropF_cons, dropF_nil, cut, cond_true, cond_false, Int.natCast_zero, Int.natCast_add, Int.natCast_one, hpm0]; done) | rfl | (simp only [go_sem, seval, reduceCtorEq, dropF_ch, dropF_cons, dropF_nil, cut, cond_true, cond_false, Int.natCast_zero, Int.natCast_add, Int.natCast_one, hpm0]; rfl)) (by first | (simp only [go_sem, seval, reduceCtorEq, dropF_ch, dropF_cons, dropF_nil, cut, cond_true, cond_false, Int.natCast_zero, Int.natCast_add, Int.natCast_one, hpm0]; done) | rfl | (simp only [go_sem, seval, reduceCtorEq, dropF_ch, dropF_cons, dropF_nil, cut, cond_true, cond_false, Int.natCast_zero, Int.natCast_add, Int.natCast_one, hpm0]; rfl)) fun k hk => ?_
    unfold L0_impl_addInto
    have hmk : (mix (addE ⟨kk, pp, nn⟩ x y) x k).length = wd := by rw [mix_len hml, hal]
    have hpl := putE_len (xs := xs) (off := off) (ys := mix (addE ⟨kk, pp, nn⟩ x y) x k) (by omega)
    by_cases hlt : k < wd
    · have d1 : (k : Int) < wd := by omega
      have d2 : (k : Int) < y.length := by omega
      have hkx : k < x.length := by omega
      have hky : k < y.length := by omega
      have gy : y[k]? = some y[k] := List.getElem?_eq_getElem hky
      have bx := hx k hkx
      have bY := hy k hky
      rw [getD_of hkx] at bx
      rw [getD_of hky] at bY
      have hgm : (mix (addE ⟨kk, pp, nn⟩ x y) x k).getD k 0 = x[k] := by
        rw [List.getD_eq_getElem?_getD, mix_get hml, if_neg (by omega), List.getElem?_eq_getElem hkx]; rfl
      have gm := putE_at (xs := xs) (ys := mix (addE ⟨kk, pp, nn⟩ x y) x k) (off := off) (k := k) (by omega) (by omega)
      rw [hgm] at gm
      have hm := mix_next hml (addE_get (r := ⟨kk, pp, nn⟩) hkx hky)
      have hq := putE_put (xs := xs) (ys := mix (addE ⟨kk, pp, nn⟩ x y) x k) (off := off) (k := k) (v := add1 ⟨kk, pp, nn⟩ x[k] y[k]) (by omega) (by omega)
      rw [← put_set (by omega), hm] at hq
      have a5 := (add1_k (r := ⟨kk, pp, nn⟩) x[k] y[k]).2.2.2.2 hpoly
      simp only at a5
      generalize hae : x[k] = a at *
      generalize hbe : y[k] = b at *
      simp (disch := omega) only [go_sem, seval, reduceCtorEq, d1, d2, gm, gy, hp0, ne_eq, not_false_eq_true, ← a5]
      refine ⟨by omega, ?_⟩
      (refine Next.drop [false, false, false, false, false, false, true, false, false, false, false, false, true, true, true, true, true, true, true, true, true, true, true, true, true, true, true, true, true, true, false, false, false, false, false, false, false, false, false, false, false, false, false, false, false, false, false, false, false, false, false, false, false, false, false, false, false, false, false, false, false, false, false, false, false, false, false, false, false, false, false, false, false, false, false, false, false] (by omega) (Nat.le_of_ble_eq_true rfl) ?_ ?_ <;> first | (simp only [go_sem, seval, reduceCtorEq, dropF_ch, dropF_cons, dropF_nil, cut, cond_true, cond_false, Int.natCast_zero, Int.natCast_add, Int.natCast_one, hq]; done) | rfl | (simp only [go_sem, seval, reduceCtorEq, dropF_ch, dropF_cons, dropF_nil, cut, cond_true, cond_false, Int.natCast_zero, Int.natCast_add, Int.natCast_one, hq]; rfl) | skip)
    · have d1 : ¬ (k : Int) < wd := by omega
      have hm : mix (addE ⟨kk, pp, nn⟩ x y) x k = addE ⟨kk, pp, nn⟩ x y := mix_full (by omega) (by omega)
      simp (disch := omega) only [go_sem, seval, reduceCtorEq, d1, hm]
      (refine FnEnd.mk (Nat.le_of_ble_eq_true rfl) rfl (of_decide_eq_true rfl) ?_ ?_ <;> try simp only [go_sem, seval, reduceCtorEq])
  have hwd1 : wd = 1 := by have := elem_wd1 (r := ⟨kk, pp, nn⟩) hr (by simp only; omega); omega
  subst hwd1
  have gx := hgx 0 (by omega)
  have gy : y[0]? = some (y.getD 0 0) := by rw [getD_of (by omega)]; exact List.getElem?_eq_getElem (by omega)
  have bx := hx 0 (by omega)
  have bY := hy 0 (by omega)
  have c1 : (0 : Int) < (1 : Nat) := by omega
  have c3 : (0 : Int) < y.length := by omega
  have c4 : off + 1 ≤ xs.length := by omega
  have he : addE ⟨kk, pp, nn⟩ x y = [add1 ⟨kk, pp, nn⟩ (x.getD 0 0) (y.getD 0 0)] := by
    match x, y, lx, ly with
    | [a], [b], _, _ => rfl
  have hput : ∀ v : Int, xs.take off ++ [v] ++ xs.drop (off + 1) = putE xs off [v] := fun v => rfl
  obtain ⟨a1, a2, a3, a4, a5⟩ := add1_k (r := ⟨kk, pp, nn⟩) (x.getD 0 0) (y.getD 0 0)
  simp only at a1 a2 a3 a4 a5
  rw [Nat.add_zero] at gx
  generalize hae : x.getD 0 0 = a at *
  generalize hbe : y.getD 0 0 = b at *
  rcases ringOk_cases hr with h | h | h | h | h | h | h | h <;> simp only at h <;> obtain ⟨rfl, h⟩ := h
  · simp (disch := omega) only [go_sem, seval, reduceCtorEq, gx, gy, c1, c3, c4]
    (refine FnEnd.mk (Nat.le_of_ble_eq_true rfl) rfl (of_decide_eq_true rfl) ?_ ?_ <;> try simp only [go_sem, seval, reduceCtorEq])
    rw [hput, he, a1 (.inl rfl)]
  · exact absurd (.inl rfl) hpoly
  · simp (disch := omega) only [go_sem, seval, reduceCtorEq, gx, gy, c1, c3, c4]
    (refine FnEnd.mk (Nat.le_of_ble_eq_true rfl) rfl (of_decide_eq_true rfl) ?_ ?_ <;> try simp only [go_sem, seval, reduceCtorEq])
    rw [hput, he, a2 rfl]
  · simp (disch := omega) only [go_sem, seval, reduceCtorEq, gx, gy, c1, c3, c4]
    (refine FnEnd.mk (Nat.le_of_ble_eq_true rfl) rfl (of_decide_eq_true rfl) ?_ ?_ <;> try simp only [go_sem, seval, reduceCtorEq])
    rw [hput, he, a3 rfl]
  · simp (disch := omega) only [go_sem, seval, reduceCtorEq, gx, gy, c1, c3, c4]
    (refine FnEnd.mk (Nat.le_of_ble_eq_true rfl) rfl (of_decide_eq_true rfl) ?_ ?_ <;> try simp only [go_sem, seval, reduceCtorEq])
    rw [hput, he, a1 (.inr rfl)]
  · simp (disch := omega) only [go_sem, seval, reduceCtorEq, gx, gy, c1, c3, c4]
    (refine FnEnd.mk (Nat.le_of_ble_eq_true rfl) rfl (of_decide_eq_true rfl) ?_ ?_ <;> try simp only [go_sem, seval, reduceCtorEq])
    rw [hput, hor, he, a4 rfl]
  · exact absurd (.inr (.inl rfl)) hpoly
  · exact absurd (.inr (.inr rfl)) hpoly

/-! ### Aligned -/
/-! ### Joined element by element -/
set_option maxHeartbeats 1600000 in
theorem l07JoinA_d {kk pp nn : Int} {t u : Ten} {wd n : Nat} (hr : ringOk ⟨kk, pp, nn⟩ = true) (hw : width ⟨kk, pp, nn⟩ = wd) (hwb : 1 ≤ wd ∧ wd ≤ 6) (hpa : prodI t.dims = n) (hn1 : 1 ≤ n ∧ n ≤ 4096) (hax : axOk t.labels t.dims) (hla : t.data.length = n * wd) (hlb : u.data.length = n * wd) (hfa : fits ⟨kk, pp, nn⟩ t.data) (hfb : fits ⟨kk, pp, nn⟩ u.data) (h : TSz 1048576 t) :
    Does Try.prog 83 [ringA kk pp nn, tenA t, tenA u, .d (.bool false)] [] (ownT 0 ⟨t.labels, t.dims, opP (addE ⟨kk, pp, nn⟩) t.data u.data wd n⟩) (stoF ⟨t.labels, t.dims, opP (addE ⟨kk, pp, nn⟩) t.data u.data wd n⟩) := by
  have hdl := h.d.len
  have hnw : n * wd ≤ 4096 * 6 := Nat.mul_le_mul (by omega) hwb.2
  have hmn : min (n : Int) 4097 = n := by omega
  (refine spec_of (by kernel_rfl) Try.func83 k_spec_l07Join (fnOk (Nat.le_of_ble_eq_true rfl) ?_); unfold C_spec_l07Join)
  (simp only [Nat.reduceSub, List.length_cons, List.length_nil, Nat.reduceAdd, ch_init1, ch_init2, ch_init3, ch_init4, ch_init5, ch_init6, ch_init7, ch_init8]; try simp only [ch_rep]); (simp only [go_sem, seval, reduceCtorEq, List.replicate])
  (refine ti_call (l05Copy_f h) ?_ ?_ ?_; (focus (simp only [go_sem, seval, reduceCtorEq]; done)); (first | rfl | (focus (simp only [go_sem]; done))))
  simp only [go_sem, seval, reduceCtorEq]
  refine wpN_lp (n) [false, false, false, false, false, false, false, false, false, false, false, false, false, true, true, true, true, true, true, true, true, true, true, true, true, true, true, true, true, true, true, true, true, true, true, true, true, true, true, true, true, true, true, true, true, true, true, true, true, false] (fun k => [(10, .d (.int k))]) (fun k => [(6, iv (opTo (addE ⟨kk, pp, nn⟩) t.data u.data t.data wd k))]) (fun _ => by (simp only [go_sem, seval, reduceCtorEq, dropF_ch, dropF_cons, dropF_nil, cut, cond_true, cond_false]); first | done | rfl) (fun _ => by (simp only [go_sem, seval, reduceCtorEq, cut]); first | done | rfl) (Nat.le_of_ble_eq_true rfl) (by first | (simp only [go_sem, seval, reduceCtorEq, dropF_ch, dropF_cons, dropF_nil, cut, cond_true, cond_false, Int.natCast_zero, Int.natCast_add, Int.natCast_one, opTo_zero]; done) | rfl | (simp only [go_sem, seval, reduceCtorEq, dropF_ch, dropF_cons, dropF_nil, cut, cond_true, cond_false, Int.natCast_zero, Int.natCast_add, Int.natCast_one, opTo_zero]; rfl)) (by first | (simp only [go_sem, seval, reduceCtorEq, dropF_ch, dropF_cons, dropF_nil, cut, cond_true, cond_false, Int.natCast_zero, Int.natCast_add, Int.natCast_one, opTo_zero]; done) | rfl | (simp only [go_sem, seval, reduceCtorEq, dropF_ch, dropF_cons, dropF_nil, cut, cond_true, cond_false, Int.natCast_zero, Int.natCast_add, Int.natCast_one, opTo_zero]; rfl)) fun k hk => ?_
  unfold L0_spec_l07Join
  simp only [go_sem, seval, reduceCtorEq]
  (refine ti_call (l05Product_d (ds := t.dims) (lim := 4096) h.d.up.len (fun d hd => by have := hax.dim d hd; omega) (by omega)) ?_ ?_ ?_; (focus (simp only [go_sem, seval, reduceCtorEq]; done)); (first | rfl | (focus (simp only [go_sem]; done))))
  by_cases hlt : k < n
  · have h2 : (k : Int) < n := by omega
    have hms := mul_step (wd := wd) hlt
    have gct := fits_cut hfa (k * wd) wd
    have gcu := fits_cut hfb (k * wd) wd
    have lct : ((t.data.drop (k * wd)).take wd).length = wd := cut_len (by omega)
    have lcu : ((u.data.drop (k * wd)).take wd).length = wd := cut_len (by omega)
    have htk : List.take wd (List.take wd (List.drop (k * wd) t.data)) = List.take wd (List.drop (k * wd) t.data) := List.take_of_length_le (by omega)
    have htk2 : List.take wd (List.take wd (List.drop (k * wd) u.data)) = List.take wd (List.drop (k * wd) u.data) := List.take_of_length_le (by omega)
    simp (disch := omega) only [go_sem, seval, reduceCtorEq, hpa, hmn, h2]
    have hf : ∀ k, k < n → (addE ⟨kk, pp, nn⟩ (cutE t.data wd k) (cutE u.data wd k)).length = wd := fun k hk => addE_len (cutE_len hla hk) (cutE_len hlb hk)
    have hol := opTo_len (z := t.data) hf hla hk
    have hput := opTo_put (z := t.data) hf hlt
    have hlf := hf k hlt
    have hpl := putE_len (xs := opTo (addE ⟨kk, pp, nn⟩) t.data u.data t.data wd k) (off := k * wd) (ys := addE ⟨kk, pp, nn⟩ (cutE t.data wd k) (cutE u.data wd k)) (by omega)
    unfold cutE at hput hlf hpl
    have htm : List.take wd (addE ⟨kk, pp, nn⟩ (List.take wd (List.drop (k * wd) t.data)) (List.take wd (List.drop (k * wd) u.data))) = addE ⟨kk, pp, nn⟩ (List.take wd (List.drop (k * wd) t.data)) (List.take wd (List.drop (k * wd) u.data)) := List.take_of_length_le (by omega)
    (refine gi_call (l05Get_d (t := t) (x := k) hw hwb.2 (by omega) (by omega) (by omega)) ?_ ?_ ?_; (focus (simp only [go_sem, seval, reduceCtorEq]; done)); (first | rfl | (focus (simp only [go_sem]; done))))
    simp only [go_sem, seval, reduceCtorEq]
    (refine gi_call (l05Get_d (t := u) (x := k) hw hwb.2 (by omega) (by omega) (by omega)) ?_ ?_ ?_; (focus (simp only [go_sem, seval, reduceCtorEq]; done)); (first | rfl | (focus (simp only [go_sem]; done))))
    simp only [go_sem, seval, reduceCtorEq]
    (refine gi_call (l02Add_d hr hw gct gcu lct lcu) ?_ ?_ ?_; (focus (simp only [go_sem, seval, reduceCtorEq, lct, lcu, htk, htk2]; done)); (first | rfl | (focus (simp only [go_sem]; done))))
    simp only [go_sem, seval, reduceCtorEq]
    (refine ti_callw [4, 5, 6] false (l05PutV_d (ca := t.labels) (cb := t.dims) (cc := opTo (addE ⟨kk, pp, nn⟩) t.data u.data t.data wd k) (m := t.data.length) (x := k) (ys := addE ⟨kk, pp, nn⟩ ((t.data.drop (k * wd)).take wd) ((u.data.drop (k * wd)).take wd)) rfl rfl (by omega) hw (by omega) hwb (by omega) (by omega) (by omega)) (of_decide_eq_true rfl) ?_ ?_ ?_ ?_ (of_decide_eq_true rfl) ?_; (focus (simp only [go_sem, seval, reduceCtorEq, hpl, hlf, htm]; done)); (focus (simp only [go_sem, seval, reduceCtorEq]; done)); (focus (simp only [go_sem, seval, reduceCtorEq, hpl, hlf, htm]; done)); (focus (simp only [go_sem, seval, reduceCtorEq]; done)))
    simp (disch := omega) only [go_sem, seval, reduceCtorEq]
    (refine Next.drop [false, false, false, false, false, false, false, false, false, false, false, false, false, true, true, true, true, true, true, true, true, true, true, true, true, true, true, true, true, true, true, true, true, true, true, true, true, true, true, true, true, true, true, true, true, true, true, true, true, false] (by omega) (Nat.le_of_ble_eq_true rfl) ?_ ?_ <;> first | (simp only [go_sem, seval, reduceCtorEq, dropF_ch, dropF_cons, dropF_nil, cut, cond_true, cond_false, Int.natCast_zero, Int.natCast_add, Int.natCast_one, hput]; done) | rfl | (simp only [go_sem, seval, reduceCtorEq, dropF_ch, dropF_cons, dropF_nil, cut, cond_true, cond_false, Int.natCast_zero, Int.natCast_add, Int.natCast_one, hput]; rfl) | skip)
  · obtain rfl : k = n := by omega
    have h2 : ¬ (k : Int) < k := by omega
    have hf : ∀ q, q < k → (addE ⟨kk, pp, nn⟩ (cutE t.data wd q) (cutE u.data wd q)).length = wd := fun k hk => addE_len (cutE_len hla hk) (cutE_len hlb hk)
    have hall := opTo_all (f := addE ⟨kk, pp, nn⟩) (x := t.data) (y := u.data) hla
    have hopl := opP_len (f := addE ⟨kk, pp, nn⟩) (x := t.data) (y := u.data) hf k (Nat.le_refl _)
    simp (disch := omega) only [go_sem, seval, reduceCtorEq, hpa, hmn, h2, hall]
    (refine FnEnd.mk (Nat.le_of_ble_eq_true rfl) rfl (of_decide_eq_true rfl) ?_ ?_ <;> try simp only [go_sem, seval, reduceCtorEq])
    all_goals rw [hopl, hla]
set_option maxHeartbeats 1600000 in
theorem l07JoinM_d {kk pp nn : Int} {t u : Ten} {wd n : Nat} (hr : ringOk ⟨kk, pp, nn⟩ = true) (hw : width ⟨kk, pp, nn⟩ = wd) (hwb : 1 ≤ wd ∧ wd ≤ 6) (hpa : prodI t.dims = n) (hn1 : 1 ≤ n ∧ n ≤ 4096) (hax : axOk t.labels t.dims) (hla : t.data.length = n * wd) (hlb : u.data.length = n * wd) (hfa : fits ⟨kk, pp, nn⟩ t.data) (hfb : fits ⟨kk, pp, nn⟩ u.data) (h : TSz 1048576 t) :
    Does Try.prog 83 [ringA kk pp nn, tenA t, tenA u, .d (.bool true)] [] (ownT 0 ⟨t.labels, t.dims, opP (mulE ⟨kk, pp, nn⟩) t.data u.data wd n⟩) (stoF ⟨t.labels, t.dims, opP (mulE ⟨kk, pp, nn⟩) t.data u.data wd n⟩) := by
  have hdl := h.d.len
  have hnw : n * wd ≤ 4096 * 6 := Nat.mul_le_mul (by omega) hwb.2
  have hmn : min (n : Int) 4097 = n := by omega
  (refine spec_of (by kernel_rfl) Try.func83 k_spec_l07Join (fnOk (Nat.le_of_ble_eq_true rfl) ?_); unfold C_spec_l07Join)
  (simp only [Nat.reduceSub, List.length_cons, List.length_nil, Nat.reduceAdd, ch_init1, ch_init2, ch_init3, ch_init4, ch_init5, ch_init6, ch_init7, ch_init8]; try simp only [ch_rep]); (simp only [go_sem, seval, reduceCtorEq, List.replicate])
  (refine ti_call (l05Copy_f h) ?_ ?_ ?_; (focus (simp only [go_sem, seval, reduceCtorEq]; done)); (first | rfl | (focus (simp only [go_sem]; done))))
  simp only [go_sem, seval, reduceCtorEq]
  refine wpN_lp (n) [false, false, false, false, false, false, false, false, false, false, false, false, false, true, true, true, true, true, true, true, true, true, true, true, true, true, true, true, true, true, true, true, true, true, true, true, true, true, true, true, true, true, true, true, true, true, true, true, true, false] (fun k => [(10, .d (.int k))]) (fun k => [(6, iv (opTo (mulE ⟨kk, pp, nn⟩) t.data u.data t.data wd k))]) (fun _ => by (simp only [go_sem, seval, reduceCtorEq, dropF_ch, dropF_cons, dropF_nil, cut, cond_true, cond_false]); first | done | rfl) (fun _ => by (simp only [go_sem, seval, reduceCtorEq, cut]); first | done | rfl) (Nat.le_of_ble_eq_true rfl) (by first | (simp only [go_sem, seval, reduceCtorEq, dropF_ch, dropF_cons, dropF_nil, cut, cond_true, cond_false, Int.natCast_zero, Int.natCast_add, Int.natCast_one, opTo_zero]; done) | rfl | (simp only [go_sem, seval, reduceCtorEq, dropF_ch, dropF_cons, dropF_nil, cut, cond_true, cond_false, Int.natCast_zero, Int.natCast_add, Int.natCast_one, opTo_zero]; rfl)) (by first | (simp only [go_sem, seval, reduceCtorEq, dropF_ch, dropF_cons, dropF_nil, cut, cond_true, cond_false, Int.natCast_zero, Int.natCast_add, Int.natCast_one, opTo_zero]; done) | rfl | (simp only [go_sem, seval, reduceCtorEq, dropF_ch, dropF_cons, dropF_nil, cut, cond_true, cond_false, Int.natCast_zero, Int.natCast_add, Int.natCast_one, opTo_zero]; rfl)) fun k hk => ?_
  unfold L0_spec_l07Join
  simp only [go_sem, seval, reduceCtorEq]
  (refine ti_call (l05Product_d (ds := t.dims) (lim := 4096) h.d.up.len (fun d hd => by have := hax.dim d hd; omega) (by omega)) ?_ ?_ ?_; (focus (simp only [go_sem, seval, reduceCtorEq]; done)); (first | rfl | (focus (simp only [go_sem]; done))))
  by_cases hlt : k < n
  · have h2 : (k : Int) < n := by omega
    have hms := mul_step (wd := wd) hlt
    have gct := fits_cut hfa (k * wd) wd
    have gcu := fits_cut hfb (k * wd) wd
    have lct : ((t.data.drop (k * wd)).take wd).length = wd := cut_len (by omega)
    have lcu : ((u.data.drop (k * wd)).take wd).length = wd := cut_len (by omega)
    have htk : List.take wd (List.take wd (List.drop (k * wd) t.data)) = List.take wd (List.drop (k * wd) t.data) := List.take_of_length_le (by omega)
    have htk2 : List.take wd (List.take wd (List.drop (k * wd) u.data)) = List.take wd (List.drop (k * wd) u.data) := List.take_of_length_le (by omega)
    simp (disch := omega) only [go_sem, seval, reduceCtorEq, hpa, hmn, h2]
    have hf : ∀ k, k < n → (mulE ⟨kk, pp, nn⟩ (cutE t.data wd k) (cutE u.data wd k)).length = wd := fun k hk => (mulE_facts hr hw (fits_cutE hfa wd k) (fits_cutE hfb wd k) (cutE_len hla hk) (cutE_len hlb hk)).1
    have hol := opTo_len (z := t.data) hf hla hk
    have hput := opTo_put (z := t.data) hf hlt
    have hlf := hf k hlt
    have hpl := putE_len (xs := opTo (mulE ⟨kk, pp, nn⟩) t.data u.data t.data wd k) (off := k * wd) (ys := mulE ⟨kk, pp, nn⟩ (cutE t.data wd k) (cutE u.data wd k)) (by omega)
    unfold cutE at hput hlf hpl
    have htm : List.take wd (mulE ⟨kk, pp, nn⟩ (List.take wd (List.drop (k * wd) t.data)) (List.take wd (List.drop (k * wd) u.data))) = mulE ⟨kk, pp, nn⟩ (List.take wd (List.drop (k * wd) t.data)) (List.take wd (List.drop (k * wd) u.data)) := List.take_of_length_le (by omega)
    (refine gi_call (l05Get_d (t := t) (x := k) hw hwb.2 (by omega) (by omega) (by omega)) ?_ ?_ ?_; (focus (simp only [go_sem, seval, reduceCtorEq]; done)); (first | rfl | (focus (simp only [go_sem]; done))))
    simp only [go_sem, seval, reduceCtorEq]
    (refine gi_call (l05Get_d (t := u) (x := k) hw hwb.2 (by omega) (by omega) (by omega)) ?_ ?_ ?_; (focus (simp only [go_sem, seval, reduceCtorEq]; done)); (first | rfl | (focus (simp only [go_sem]; done))))
    simp only [go_sem, seval, reduceCtorEq]
    (refine gi_call (l02Mul_d hr hw gct gcu lct lcu) ?_ ?_ ?_; (focus (simp only [go_sem, seval, reduceCtorEq, lct, lcu, htk, htk2]; done)); (first | rfl | (focus (simp only [go_sem]; done))))
    simp only [go_sem, seval, reduceCtorEq]
    (refine ti_callw [4, 5, 6] false (l05PutV_d (ca := t.labels) (cb := t.dims) (cc := opTo (mulE ⟨kk, pp, nn⟩) t.data u.data t.data wd k) (m := t.data.length) (x := k) (ys := mulE ⟨kk, pp, nn⟩ ((t.data.drop (k * wd)).take wd) ((u.data.drop (k * wd)).take wd)) rfl rfl (by omega) hw (by omega) hwb (by omega) (by omega) (by omega)) (of_decide_eq_true rfl) ?_ ?_ ?_ ?_ (of_decide_eq_true rfl) ?_; (focus (simp only [go_sem, seval, reduceCtorEq, hpl, hlf, htm]; done)); (focus (simp only [go_sem, seval, reduceCtorEq]; done)); (focus (simp only [go_sem, seval, reduceCtorEq, hpl, hlf, htm]; done)); (focus (simp only [go_sem, seval, reduceCtorEq]; done)))
    simp (disch := omega) only [go_sem, seval, reduceCtorEq]
    (refine Next.drop [false, false, false, false, false, false, false, false, false, false, false, false, false, true, true, true, true, true, true, true, true, true, true, true, true, true, true, true, true, true, true, true, true, true, true, true, true, true, true, true, true, true, true, true, true, true, true, true, true, false] (by omega) (Nat.le_of_ble_eq_true rfl) ?_ ?_ <;> first | (simp only [go_sem, seval, reduceCtorEq, dropF_ch, dropF_cons, dropF_nil, cut, cond_true, cond_false, Int.natCast_zero, Int.natCast_add, Int.natCast_one, hput]; done) | rfl | (simp only [go_sem, seval, reduceCtorEq, dropF_ch, dropF_cons, dropF_nil, cut, cond_true, cond_false, Int.natCast_zero, Int.natCast_add, Int.natCast_one, hput]; rfl) | skip)
  · obtain rfl : k = n := by omega
    have h2 : ¬ (k : Int) < k := by omega
    have hf : ∀ q, q < k → (mulE ⟨kk, pp, nn⟩ (cutE t.data wd q) (cutE u.data wd q)).length = wd := fun k hk => (mulE_facts hr hw (fits_cutE hfa wd k) (fits_cutE hfb wd k) (cutE_len hla hk) (cutE_len hlb hk)).1
    have hall := opTo_all (f := mulE ⟨kk, pp, nn⟩) (x := t.data) (y := u.data) hla
    have hopl := opP_len (f := mulE ⟨kk, pp, nn⟩) (x := t.data) (y := u.data) hf k (Nat.le_refl _)
    simp (disch := omega) only [go_sem, seval, reduceCtorEq, hpa, hmn, h2, hall]
    (refine FnEnd.mk (Nat.le_of_ble_eq_true rfl) rfl (of_decide_eq_true rfl) ?_ ?_ <;> try simp only [go_sem, seval, reduceCtorEq])
    all_goals rw [hopl, hla]
end Go.Proofs.Ytcgnehacihjnkaa
