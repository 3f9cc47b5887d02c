/-
  Contracts: products of elements, scaled tensors. No condition.
-/
import Derived.Test.YtcgnehacihjnkaaCoB
import Derived.Test.YtcgnehacihjnkaaPlA
namespace Go.Proofs.Ytcgnehacihjnkaa
open Go.RowKit Go.Lift Plain
set_option linter.unusedSimpArgs false
set_option linter.unusedVariables false
set_option maxRecDepth 100000

theorem putE_at {xs ys : List Int} {off k : Nat} (h : off + ys.length ≤ xs.length) (hk : k < ys.length) : (putE xs off ys)[off + k]? = some (ys.getD k 0) := by
  rw [putE_get h, if_pos (by omega), show off + k - off = k by omega, List.getElem?_eq_getElem hk, getD_of hk]
theorem putE_put {xs ys : List Int} {off k : Nat} {v : Int} (h : off + ys.length ≤ xs.length) (hk : k < ys.length) :
    (putE xs off ys).take (off + k) ++ [v] ++ (putE xs off ys).drop (off + k + 1) = putE xs off (ys.set k v) := by
  rw [put_set (by rw [putE_len h]; omega)]
  refine List.ext_getElem? fun i => ?_
  rw [List.getElem?_set, putE_get h, putE_get (by simpa using h), putE_len h]
  by_cases h1 : off + k = i
  · subst h1
    rw [if_pos rfl, if_pos (by omega), if_pos (by simp; omega), show off + k - off = k by omega, List.getElem?_set, if_pos rfl, if_pos hk]
  · rw [if_neg h1]
    by_cases h2 : off ≤ i ∧ i < off + ys.length
    · rw [if_pos h2, if_pos (by simpa using h2), List.getElem?_set, if_neg (by omega)]
    · rw [if_neg h2, if_neg (by simpa using h2)]
set_option maxHeartbeats 1000000 in
theorem l02Mul_d {kk pp nn : Int} {x y : List Int} {wd : Nat} (hr : ringOk ⟨kk, pp, nn⟩ = true) (hw : width ⟨kk, pp, nn⟩ = wd) (hx : fits ⟨kk, pp, nn⟩ x) (hy : fits ⟨kk, pp, nn⟩ y) (lx : x.length = wd) (ly : y.length = wd) :
    Does Try.prog 156 [ringA kk pp nn, .d (ints x), .d (ints y)] [] (.own 0 0 wd) [some ⟨1, true, iv (mulE ⟨kk, pp, nn⟩ x y)⟩] := by
  have hwb := width_bd hr
  have htb := top_bd hr
  have x0 := hx 0 (by omega)
  have y0 := hy 0 (by omega)
  have hmm : 0 ≤ x.getD 0 0 * y.getD 0 0 := Int.mul_nonneg x0.1 y0.1
  have hmb : x.getD 0 0 * y.getD 0 0 ≤ x.getD 0 0 * 1048576 := Int.mul_le_mul_of_nonneg_left (by omega) x0.1
  have gx : x[0]? = some (x.getD 0 0) := by rw [getD_of (by omega)]; exact List.getElem?_eq_getElem (by omega)
  have gy : y[0]? = some (y.getD 0 0) := by rw [getD_of (by omega)]; exact List.getElem?_eq_getElem (by omega)
  have c2 : (0 : Int) < x.length := by omega
  have c3 : (0 : Int) < y.length := by omega
  have hand : ∀ a b : Int, IntKind.i64.wrap (BitVec.ofInt 64 a &&& BitVec.ofInt 64 b).toNat = andI a b := fun _ _ => rfl
  have hlow := fun h => (elem_low (r := ⟨kk, pp, nn⟩) hr hx h).2
  simp only at hlow
  have h1wd : ¬ (kk = 7 ∨ kk = 8) → wd = 1 := fun h => by have := elem_wd1 (r := ⟨kk, pp, nn⟩) hr h; omega
  (refine spec_of (by kernel_rfl) Try.func156 k_spec_l02Mul (fnOk (Nat.le_of_ble_eq_true rfl) ?_); unfold C_spec_l02Mul)
  (simp only [Nat.reduceSub, List.length_cons, List.length_nil, Nat.reduceAdd, ch_init1, ch_init2, ch_init3, ch_init4, ch_init5, ch_init6, ch_init7, ch_init8]; try simp only [ch_rep]); (simp only [go_sem, seval, reduceCtorEq, List.replicate])
  refine ⟨by omega, ?_⟩
  by_cases h78 : kk = 7 ∨ kk = 8
  rotate_left
  · have h1 := h1wd h78
    subst h1
    generalize hae : x.getD 0 0 = a at *
    generalize hbe : y.getD 0 0 = b at *
    have hdr : List.drop 1 (List.replicate x.length (0 : Int)) = [] := by rw [lx]; rfl
    rcases ringOk_cases hr with h | h | h | h | h | h | h | h <;> simp only at h <;> obtain ⟨rfl, h⟩ := h
    · have he : mulE ⟨1, pp, nn⟩ x y = [andI a b] := by simp only [top, if_true] at x0 y0; rw [and_bit x0 y0]; simp only [mulE, hae, hbe]; rfl
      simp (disch := omega) only [go_sem, seval, reduceCtorEq, gx, gy, c2, c3, hdr]
      refine ⟨by simp [lx], ?_⟩
      (refine FnEnd.mk (Nat.le_of_ble_eq_true rfl) rfl (of_decide_eq_true rfl) ?_ ?_ <;> try simp only [go_sem, seval, reduceCtorEq])
      · rw [lx]
      · rw [he]; rfl
    · have he : mulE ⟨2, pp, nn⟩ x y = [(a * b).tmod pp] := by simp only [mulE, hae, hbe]; rfl
      have hp := hlow (.inl rfl)
      have hp0 : pp ≠ 0 := by omega
      simp (disch := omega) only [go_sem, seval, reduceCtorEq, gx, gy, c2, c3, hdr, hp0, ne_eq, not_false_eq_true]
      refine ⟨by simp [lx], ?_⟩
      (refine FnEnd.mk (Nat.le_of_ble_eq_true rfl) rfl (of_decide_eq_true rfl) ?_ ?_ <;> try simp only [go_sem, seval, reduceCtorEq])
      · rw [lx]
      · rw [he]; rfl
    · have he : mulE ⟨3, pp, nn⟩ x y = [min (a * b) pp] := by simp only [mulE, hae, hbe]; rfl
      simp (disch := omega) only [go_sem, seval, reduceCtorEq, gx, gy, c2, c3, hdr]
      refine ⟨by simp [lx], ?_⟩
      (refine FnEnd.mk (Nat.le_of_ble_eq_true rfl) rfl (of_decide_eq_true rfl) ?_ ?_ <;> try simp only [go_sem, seval, reduceCtorEq])
      · rw [lx]
      · rw [he]; rfl
    · have he : mulE ⟨4, pp, nn⟩ x y = [min (a + b) pp] := by simp only [mulE, hae, hbe]; rfl
      simp (disch := omega) only [go_sem, seval, reduceCtorEq, gx, gy, c2, c3, hdr]
      refine ⟨by simp [lx], ?_⟩
      (refine FnEnd.mk (Nat.le_of_ble_eq_true rfl) rfl (of_decide_eq_true rfl) ?_ ?_ <;> try simp only [go_sem, seval, reduceCtorEq])
      · rw [lx]
      · rw [he]; rfl
    · have he : mulE ⟨5, pp, nn⟩ x y = [min a b] := by simp only [mulE, hae, hbe]; rfl
      simp (disch := omega) only [go_sem, seval, reduceCtorEq, gx, gy, c2, c3, hdr]
      refine ⟨by simp [lx], ?_⟩
      (refine FnEnd.mk (Nat.le_of_ble_eq_true rfl) rfl (of_decide_eq_true rfl) ?_ ?_ <;> try simp only [go_sem, seval, reduceCtorEq])
      · rw [lx]
      · rw [he]; rfl
    · have he : mulE ⟨6, pp, nn⟩ x y = [andI a b] := by simp only [mulE, hae, hbe]; rfl
      simp (disch := omega) only [go_sem, seval, reduceCtorEq, gx, gy, c2, c3, hdr]
      refine ⟨by simp [lx], ?_⟩
      (refine FnEnd.mk (Nat.le_of_ble_eq_true rfl) rfl (of_decide_eq_true rfl) ?_ ?_ <;> try simp only [go_sem, seval, reduceCtorEq])
      · rw [lx]
      · rw [he]; rfl
    · exact absurd (.inl rfl) h78
    · exact absurd (.inr rfl) h78
  · have he : mulE ⟨kk, pp, nn⟩ x y = mulTo ⟨kk, pp, nn⟩ x y (List.replicate wd 0) wd := by
      unfold mulE
      rw [if_neg (by simp only; omega), if_neg (by simp only; omega), if_neg (by simp only; omega), if_neg (by simp only; omega), if_neg (by simp only; omega), lx]
    have hk' : kk = 2 ∨ kk = 7 ∨ kk = 8 := by omega
    obtain ⟨hlx, hp1, hp2⟩ := elem_low (r := ⟨kk, pp, nn⟩) hr hx hk'
    obtain ⟨hly, _⟩ := elem_low (r := ⟨kk, pp, nn⟩) hr hy hk'
    simp only at hp1 hp2
    have hz := lowP_rep (p := pp) (by omega) wd
    have hT := mulTo_eq (r := ⟨kk, pp, nn⟩) ⟨hp1, hp2⟩ hz hlx hly
    have hrl : (List.replicate wd (0 : Int)).length = wd := by simp
    have k1 : (kk == 1) = false := by simp; omega
    have k2 : (kk == 2) = false := by simp; omega
    have k3 : (kk == 3) = false := by simp; omega
    have k4 : (kk == 4) = false := by simp; omega
    have k5 : (kk == 5) = false := by simp; omega
    have k6 : (kk == 6) = false := by simp; omega
    simp (disch := omega) only [go_sem, seval, reduceCtorEq, k1, k2, k3, k4, k5, k6]
    refine wpN_lp (wd) [false, false, false, false, false, false, false, false, true, true, true, true, false, false, false, false, false, false, false, false, true, true, true, true, true, true, true, true, true, true, true, true, true, true, true, true, true, true, true, true, true, true, true, true, true, true, true, true, true, true, true, true, true, true, true, true, true, true, true, true, true, true, true, true, true, true, true, true, true, true, true, true, true, true, true, true, true, true, true, true, true, true, true, true, true, false, false, false, false, false, false, false, false, false, false, false, false, false, false, false, false, false, false, false, false, false, false, false, false, false, false, false, false, false, false, false, false, false, false, false, false, false, false, false, false, false, false, false, false, false, false, false, false, false, false, false, false, false, false, false, false, false, false, false, false, false, false, false, false, false, false] (fun k => [(19, .d (.int k))]) (fun k => [(1, iv (mulTo ⟨kk, pp, nn⟩ x y (List.replicate wd 0) k))]) (fun _ => by (simp only [go_sem, seval, reduceCtorEq, dropF_ch, dropF_cons, dropF_nil, cut, cond_true, cond_false]); first | done | rfl) (fun _ => by (simp only [go_sem, seval, reduceCtorEq, cut]); first | done | rfl) (Nat.le_of_ble_eq_true rfl) (by first | (simp only [go_sem, seval, reduceCtorEq, dropF_ch, dropF_cons, dropF_nil, cut, cond_true, cond_false, Int.natCast_zero, Int.natCast_add, Int.natCast_one, lx, mulTo]; done) | rfl | (simp only [go_sem, seval, reduceCtorEq, dropF_ch, dropF_cons, dropF_nil, cut, cond_true, cond_false, Int.natCast_zero, Int.natCast_add, Int.natCast_one, lx, mulTo]; rfl)) (by first | (simp only [go_sem, seval, reduceCtorEq, dropF_ch, dropF_cons, dropF_nil, cut, cond_true, cond_false, Int.natCast_zero, Int.natCast_add, Int.natCast_one, lx, mulTo]; done) | rfl | (simp only [go_sem, seval, reduceCtorEq, dropF_ch, dropF_cons, dropF_nil, cut, cond_true, cond_false, Int.natCast_zero, Int.natCast_add, Int.natCast_one, lx, mulTo]; rfl)) fun k hk => ?_
    unfold L1_spec_l02Mul
    obtain ⟨hT1, hT2, hT3⟩ := hT k
    rw [hrl] at hT3
    by_cases hlt : k < wd
    · have h1 : (k : Int) < x.length := by omega
      have hx1 : x[k]? = some (x.getD k 0) := by rw [getD_of (by omega)]; exact List.getElem?_eq_getElem (by omega)
      simp (disch := omega) only [go_sem, seval, reduceCtorEq, h1, hx1]
      have hR := mulRowTo_eq (r := ⟨kk, pp, nn⟩) (i := k) ⟨hp1, hp2⟩ hT2 (hlx.at (by omega) k) hly
      refine wpN_lp (wd) [false, false, false, false, false, false, false, false, false, false, true, true, false, false, false, false, false, false, false, false, false, false, false, false, false, false, false, true, true, true, true, true, true, true, true, true, true, true, true, true, true, true, true, true, true, true, true, true, true, true, true, true, true, true, true, true, true, true, true, true, true, true, true, true, true, true, true, true, true, true, true, true, true, true, true, true, true, true, true, true, true, true, true, true, false, false, false, false, false, false, false, false, false, false, false, false, false, false, false, false, false, false, false, false, false, false, false, false, false, false, false, false, false, false, false, false, false, false, false, false, false, false, false, false, false, false, false, false, false, false, false, false, false, false, false, false, false, false, false, false, false, false, false, false, false, false, false, false, false, false, false] (fun j => [(26, .d (.int j))]) (fun j => [(1, iv (mulRowTo ⟨kk, pp, nn⟩ y k (x.getD k 0) (mulTo ⟨kk, pp, nn⟩ x y (List.replicate wd 0) k) j))]) (fun _ => by (simp only [go_sem, seval, reduceCtorEq, dropF_ch, dropF_cons, dropF_nil, cut, cond_true, cond_false]); first | done | rfl) (fun _ => by (simp only [go_sem, seval, reduceCtorEq, cut]); first | done | rfl) (Nat.le_of_ble_eq_true rfl) (by first | (simp only [go_sem, seval, reduceCtorEq, dropF_ch, dropF_cons, dropF_nil, cut, cond_true, cond_false, Int.natCast_zero, Int.natCast_add, Int.natCast_one, ly, mulRowTo]; done) | rfl | (simp only [go_sem, seval, reduceCtorEq, dropF_ch, dropF_cons, dropF_nil, cut, cond_true, cond_false, Int.natCast_zero, Int.natCast_add, Int.natCast_one, ly, mulRowTo]; rfl)) (by first | (simp only [go_sem, seval, reduceCtorEq, dropF_ch, dropF_cons, dropF_nil, cut, cond_true, cond_false, Int.natCast_zero, Int.natCast_add, Int.natCast_one, ly, mulRowTo]; done) | rfl | (simp only [go_sem, seval, reduceCtorEq, dropF_ch, dropF_cons, dropF_nil, cut, cond_true, cond_false, Int.natCast_zero, Int.natCast_add, Int.natCast_one, ly, mulRowTo]; rfl)) fun j hj => ?_
      unfold L0_spec_l02Mul
      obtain ⟨hR1, hR2, hR3⟩ := hR j
      rw [hT3] at hR3
      by_cases hltj : j < wd
      · have h2 : (j : Int) < y.length := by omega
        have hy1 : y[j]? = some (y.getD j 0) := by rw [getD_of (by omega)]; exact List.getElem?_eq_getElem (by omega)
        have ha := hlx.at (show 0 < pp by omega) k
        have hb := hly.at (show 0 < pp by omega) j
        simp only at ha hb
        have hab := mul_nn ha hb hp2
        have hpa : 0 ≤ (pp - x.getD k 0) * y.getD j 0 := Int.mul_nonneg (by omega) hb.1
        have hpb : (pp - x.getD k 0) * y.getD j 0 ≤ (pp - x.getD k 0) * 1000003 := Int.mul_le_mul_of_nonneg_left (by omega) (by omega)
        have hp0 : pp ≠ 0 := by omega
        have hRn : mulRowTo ⟨kk, pp, nn⟩ y k (x.getD k 0) (mulTo ⟨kk, pp, nn⟩ x y (List.replicate wd 0) k) (j + 1) = mulAt ⟨kk, pp, nn⟩ (mulRowTo ⟨kk, pp, nn⟩ y k (x.getD k 0) (mulTo ⟨kk, pp, nn⟩ x y (List.replicate wd 0) k) j) k j (x.getD k 0) (y.getD j 0) := rfl
        rw [mulAt, hR3] at hRn
        generalize mulRowTo ⟨kk, pp, nn⟩ y k (x.getD k 0) (mulTo ⟨kk, pp, nn⟩ x y (List.replicate wd 0) k) j = cur at *
        generalize hae : x.getD k 0 = a at *
        generalize hbe : y.getD j 0 = b at *
        have hc := hR2.at (show 0 < pp by omega) (k + j)
        have hc4 := hR2.at (show 0 < pp by omega) (k + j - 4)
        simp only at hc hc4 hRn
        have e1 : (k : Int) + j = (k + j : Nat) := by push_cast; rfl
        by_cases h3 : k + j < wd
        · have h3' : ((k + j : Nat) : Int) < wd := by omega
          have h3'' : ((k + j : Nat) : Int) < x.length := by omega
          rw [if_pos h3] at hRn
          have hg : cur[k + j]? = some (cur.getD (k + j) 0) := by rw [getD_of (by omega)]; exact List.getElem?_eq_getElem (by omega)
          have hq := fun v => put_set (xs := cur) (n := k + j) (x := v) (by omega)
          simp (disch := omega) only [go_sem, seval, reduceCtorEq, h2, hx1, hy1, hp0, e1, h3', h3'', hg, hae, ne_eq, not_false_eq_true]
          refine ⟨by omega, ?_⟩
          (refine Next.drop [false, false, false, false, false, false, false, false, false, false, true, true, false, false, false, false, false, false, false, false, false, false, false, false, false, false, false, true, true, true, true, true, true, true, true, true, true, true, true, true, true, true, true, true, true, true, true, true, true, true, true, true, true, true, true, true, true, true, true, true, true, true, true, true, true, true, true, true, true, true, true, true, true, true, true, true, true, true, true, true, true, true, true, true, false, false, false, false, false, false, false, false, false, false, false, false, false, false, false, false, false, false, false, false, false, false, false, false, false, false, false, false, false, false, false, false, false, false, false, false, false, false, false, false, false, false, false, false, false, false, false, false, false, false, false, false, false, false, false, false, false, false, false, false, false, false, false, false, false, false, false] (by omega) (Nat.le_of_ble_eq_true rfl) ?_ ?_ <;> first | (simp only [go_sem, seval, reduceCtorEq, dropF_ch, dropF_cons, dropF_nil, cut, cond_true, cond_false, Int.natCast_zero, Int.natCast_add, Int.natCast_one, hq, ← hRn]; done) | rfl | (simp only [go_sem, seval, reduceCtorEq, dropF_ch, dropF_cons, dropF_nil, cut, cond_true, cond_false, Int.natCast_zero, Int.natCast_add, Int.natCast_one, hq, ← hRn]; rfl) | skip)
        · rw [if_neg h3] at hRn
          have h3' : ¬ ((k + j : Nat) : Int) < x.length := by omega
          rcases hk' with rfl | rfl | rfl
          · omega
          · rw [if_neg (by decide)] at hRn
            simp (disch := omega) only [go_sem, seval, reduceCtorEq, h2, hx1, hy1, hp0, e1, h3', hae, ne_eq, not_false_eq_true]
            (refine Next.drop [false, false, false, false, false, false, false, false, false, false, true, true, false, false, false, false, false, false, false, false, false, false, false, false, false, false, false, true, true, true, true, true, true, true, true, true, true, true, true, true, true, true, true, true, true, true, true, true, true, true, true, true, true, true, true, true, true, true, true, true, true, true, true, true, true, true, true, true, true, true, true, true, true, true, true, true, true, true, true, true, true, true, true, true, false, false, false, false, false, false, false, false, false, false, false, false, false, false, false, false, false, false, false, false, false, false, false, false, false, false, false, false, false, false, false, false, false, false, false, false, false, false, false, false, false, false, false, false, false, false, false, false, false, false, false, false, false, false, false, false, false, false, false, false, false, false, false, false, false, false, false] (by omega) (Nat.le_of_ble_eq_true rfl) ?_ ?_ <;> first | (simp only [go_sem, seval, reduceCtorEq, dropF_ch, dropF_cons, dropF_nil, cut, cond_true, cond_false, Int.natCast_zero, Int.natCast_add, Int.natCast_one, ← hRn]; done) | rfl | (simp only [go_sem, seval, reduceCtorEq, dropF_ch, dropF_cons, dropF_nil, cut, cond_true, cond_false, Int.natCast_zero, Int.natCast_add, Int.natCast_one, ← hRn]; rfl) | skip)
          · rw [if_pos rfl] at hRn
            have hw4 : wd = 4 := by simp [width] at hw; omega
            have e4 : ((k + j : Nat) : Int) - 4 = (k + j - 4 : Nat) := by omega
            have h5 : ((k + j - 4 : Nat) : Int) < x.length := by omega
            have hg : cur[k + j - 4]? = some (cur.getD (k + j - 4) 0) := by rw [getD_of (by omega)]; exact List.getElem?_eq_getElem (by omega)
            have hq := fun v => put_set (xs := cur) (n := k + j - 4) (x := v) (by omega)
            simp (disch := omega) only [go_sem, seval, reduceCtorEq, h2, hx1, hy1, hp0, e1, e4, h3', h5, hg, hae, ne_eq, not_false_eq_true]
            refine ⟨by omega, ?_⟩
            (refine Next.drop [false, false, false, false, false, false, false, false, false, false, true, true, false, false, false, false, false, false, false, false, false, false, false, false, false, false, false, true, true, true, true, true, true, true, true, true, true, true, true, true, true, true, true, true, true, true, true, true, true, true, true, true, true, true, true, true, true, true, true, true, true, true, true, true, true, true, true, true, true, true, true, true, true, true, true, true, true, true, true, true, true, true, true, true, false, false, false, false, false, false, false, false, false, false, false, false, false, false, false, false, false, false, false, false, false, false, false, false, false, false, false, false, false, false, false, false, false, false, false, false, false, false, false, false, false, false, false, false, false, false, false, false, false, false, false, false, false, false, false, false, false, false, false, false, false, false, false, false, false, false, false] (by omega) (Nat.le_of_ble_eq_true rfl) ?_ ?_ <;> first | (simp only [go_sem, seval, reduceCtorEq, dropF_ch, dropF_cons, dropF_nil, cut, cond_true, cond_false, Int.natCast_zero, Int.natCast_add, Int.natCast_one, hq, ← hRn]; done) | rfl | (simp only [go_sem, seval, reduceCtorEq, dropF_ch, dropF_cons, dropF_nil, cut, cond_true, cond_false, Int.natCast_zero, Int.natCast_add, Int.natCast_one, hq, ← hRn]; rfl) | skip)
      · have h2 : ¬ (j : Int) < y.length := by omega
        have hjw : j = y.length := by omega
        simp (disch := omega) only [go_sem, seval, reduceCtorEq, h2]
        (refine Next.drop [false, false, false, false, false, false, false, false, true, true, true, true, false, false, false, false, false, false, false, false, true, true, true, true, true, true, true, true, true, true, true, true, true, true, true, true, true, true, true, true, true, true, true, true, true, true, true, true, true, true, true, true, true, true, true, true, true, true, true, true, true, true, true, true, true, true, true, true, true, true, true, true, true, true, true, true, true, true, true, true, true, true, true, true, true, false, false, false, false, false, false, false, false, false, false, false, false, false, false, false, false, false, false, false, false, false, false, false, false, false, false, false, false, false, false, false, false, false, false, false, false, false, false, false, false, false, false, false, false, false, false, false, false, false, false, false, false, false, false, false, false, false, false, false, false, false, false, false, false, false, false] (by omega) (Nat.le_of_ble_eq_true rfl) ?_ ?_ <;> first | (simp only [go_sem, seval, reduceCtorEq, dropF_ch, dropF_cons, dropF_nil, cut, cond_true, cond_false, Int.natCast_zero, Int.natCast_add, Int.natCast_one, mulTo, hjw]; done) | rfl | (simp only [go_sem, seval, reduceCtorEq, dropF_ch, dropF_cons, dropF_nil, cut, cond_true, cond_false, Int.natCast_zero, Int.natCast_add, Int.natCast_one, mulTo, hjw]; rfl) | skip)
    · have h1 : ¬ (k : Int) < x.length := by omega
      have hkw : k = wd := by omega
      subst hkw
      simp (disch := omega) only [go_sem, seval, reduceCtorEq, h1]
      (refine FnEnd.mk (Nat.le_of_ble_eq_true rfl) rfl (of_decide_eq_true rfl) ?_ ?_ <;> try simp only [go_sem, seval, reduceCtorEq])
      all_goals simp only [he, lx]
end Go.Proofs.Ytcgnehacihjnkaa

/-
  Contracts: scaled tensors. No condition.
-/
namespace Go.Proofs.Ytcgnehacihjnkaa
open Go.RowKit Go.Lift Plain
set_option linter.unusedSimpArgs false
set_option linter.unusedVariables false
set_option maxRecDepth 100000

theorem l05PutV_d {x wd l d m : Nat} {kk pp nn : Int} {ca cb cc ys : List Int} (hl : l = ca.length) (hd : d = cb.length) (hm : m = cc.length) (hw : width ⟨kk, pp, nn⟩ = (wd : Int)) (hy : ys.length = wd) (h1 : 1 ≤ wd ∧ wd ≤ 6) (hx : x * wd + wd ≤ m) (hx2 : x ≤ 1099511627776) (h : m ≤ 1099511627776) :
    Does Try.prog 155 [ringA kk pp nn, .agg [.own 0 0 l, .own 1 0 d, .own 2 0 m], .d (.int x), .d (ints ys)] [some ⟨1, false, iv ca⟩, some ⟨1, false, iv cb⟩, some ⟨1, false, iv cc⟩] (.tup []) [some ⟨1, false, iv ca⟩, some ⟨1, false, iv cb⟩, some ⟨1, false, iv (putE cc (x * wd) ys)⟩] := by
  subst hl hd hm
  exact l05Put_d (t := ⟨ca, cb, cc⟩) hw hy h1 hx hx2 h
theorem fits_cut {r : Rg} {xs : List Int} (h : fits r xs) (a b : Nat) : fits r ((xs.drop a).take b) := by
  intro k hk
  have hk' : k < b ∧ k < xs.length - a := by simpa [Nat.lt_min] using hk
  have := h (a + k) (by omega)
  rw [getD_of hk]
  simp only [List.getElem_take, List.getElem_drop]
  rwa [getD_of (by omega)] at this
theorem mul_step {i n wd : Nat} (h : i < n) : i * wd + wd ≤ n * wd := by
  have : (i + 1) * wd ≤ n * wd := Nat.mul_le_mul_right wd h
  rw [Nat.add_mul, Nat.one_mul] at this
  exact this
end Go.Proofs.Ytcgnehacihjnkaa
