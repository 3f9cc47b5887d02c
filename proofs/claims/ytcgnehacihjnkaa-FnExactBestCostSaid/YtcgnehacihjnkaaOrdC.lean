/-
  Contracts: the state of an order, by the reference. No condition.
-/
import Derived.Test.YtcgnehacihjnkaaMgBestCostA
import Derived.Test.YtcgnehacihjnkaaOrdL
import Derived.Test.YtcgnehacihjnkaaBoolA
import Derived.Test.YtcgnehacihjnkaaConK
namespace Go.Proofs.Ytcgnehacihjnkaa
open Go.RowKit Go.Lift Plain
set_option linter.unusedSimpArgs false
set_option linter.unusedVariables false
set_option maxRecDepth 100000

/-! ### Shapes: labels and their dimensions -/
def shT (T : List Int) (l : List Int) : Ten := ⟨l, l.map (atT T), []⟩
def shA (T : List Int) (L : List (List Int)) : List AV := L.flatMap fun l => [.d (ints l), .d (ints (l.map (atT T))), .nil]
def shD (T : List Int) (L : List (List Int)) : List D := tcs (L.map (shT T))
section
variable {T : List Int} {L : List (List Int)} {k : Nat}
theorem shA_len : (shA T L).length = L.length * 3 := by
  induction L with
  | nil => rfl
  | cons x l ih => rw [shA, List.flatMap_cons, List.length_append, ← shA, ih]; simp; omega
theorem shD_len : (shD T L).length = L.length * 3 := by rw [shD, tcs_len, List.length_map]
theorem shA_drop : ∀ {L : List (List Int)} {k : Nat} (h : k < L.length), (shA T L).drop (k * 3) = .d (ints L[k]) :: .d (ints (L[k].map (atT T))) :: .nil :: shA T (L.drop (k + 1))
  | x :: l, 0, _ => by simp [shA]
  | x :: l, k + 1, h => by
    have := shA_drop (L := l) (k := k) (by simpa using h)
    rw [shA, List.flatMap_cons, ← shA, show (k + 1) * 3 = 3 + k * 3 by omega, ← List.drop_drop]
    simpa using this
theorem shA_cut (h : k < L.length) : ((shA T L).drop (k * 3)).take 3 = [.d (ints L[k]), .d (ints (L[k].map (atT T))), .nil] := by rw [shA_drop h]; rfl
theorem shA_snoc (l : List Int) : shA T L ++ [.d (.sl l.length (dv l)), .d (.sl (l.map (atT T)).length (dv (l.map (atT T)))), .nil] = shA T (L ++ [l]) := by simp [shA, ints]
theorem cellsD_shA : cellsD (shA T L) = some (shD T L) := by
  induction L with
  | nil => rfl
  | cons x l ih => simp only [shA, shD, List.flatMap_cons, List.map_cons, tcs, List.cons_append, List.nil_append, cellsD, cellD] at ih ⊢; rw [ih]; rfl
theorem rnL_shA (ρ : Nat → Option Nat) : rnL ρ (shA T L) = shA T L := by
  induction L with
  | nil => rfl
  | cons x l ih => simp only [shA, List.flatMap_cons, List.cons_append, List.nil_append, rnL, rn] at ih ⊢; rw [ih]
theorem cgL_shA (gv M : List Nat) : cgL gv M (shA T L) = shA T L := by
  induction L with
  | nil => rfl
  | cons x l ih => simp only [shA, List.flatMap_cons, List.cons_append, List.nil_append, cgL, cgA] at ih ⊢; rw [ih]
theorem mapL_shA (k e : Nat) (ls : List D) : mapL (fzG k e ls) (shA T L) = shA T L := by
  induction L with
  | nil => rfl
  | cons x l ih => simp only [shA, List.flatMap_cons, List.cons_append, List.nil_append, mapL, mapA] at ih ⊢; rw [ih]; rfl
theorem mapL_bv (k e : Nat) (ls : List D) (xs : List Bool) : mapL (fzG k e ls) (bv xs) = bv xs := by
  rw [mapL_eq, bv, List.map_map]
  exact List.map_congr_left fun x _ => rfl
end
attribute [go_sem] shA_len shD_len rnL_shA cgL_shA mapL_shA cellsD_shA shA_snoc mapL_bv
theorem l08Join_t {T A B : List Int} (ha : A.Nodup) (la : A.length ≤ 100) (hb : B.Nodup) (lb : B.length ≤ 100) :
    Does Try.prog 145 [.agg [.d (ints A), .d (ints (A.map (atT T))), .d (.sl 0 [])], .agg [.d (ints B), .d (ints (B.map (atT T))), .d (.sl 0 [])]] []
      (.tup [.own 0 0 (joinL A B).length, .own 1 0 (joinL A B).length, .d (.bool true)]) [some ⟨1, true, iv (joinL A B)⟩, some ⟨1, true, iv ((joinL A B).map (atT T))⟩] := by
  have lA : (A.map (atT T)).length = A.length := List.length_map ..
  have lB : (B.map (atT T)).length = B.length := List.length_map ..
  (refine spec_of (by kernel_rfl) Try.func145 k_spec_l08Join (fnOk (Nat.le_of_ble_eq_true rfl) ?_); unfold C_spec_l08Join)
  (simp only [Nat.reduceSub, List.length_cons, List.length_nil, Nat.reduceAdd, ch_init1, ch_init2, ch_init3, ch_init4, ch_init5, ch_init6, ch_init7, ch_init8]; try simp only [ch_rep]); (simp only [go_sem, seval, reduceCtorEq, List.replicate])
  (refine ti_call (l05Ints_d (xs := A) (by omega)) ?_ ?_ ?_; (focus (simp only [go_sem, seval, reduceCtorEq]; done)); (first | rfl | (focus (simp only [go_sem]; done))))
  simp only [go_sem, seval, reduceCtorEq]
  (refine ti_call (l05Ints_d (xs := A.map (atT T)) (by omega)) ?_ ?_ ?_; (focus (simp only [go_sem, seval, reduceCtorEq]; done)); (first | rfl | (focus (simp only [go_sem]; done))))
  simp only [go_sem, seval, reduceCtorEq, lA, lB]
  refine wpN_lp (B.length) [false, false, false, false, true, true, true, false, false, true, true, true, false, false, true, false, false, true, false, false, false, false, true, true, true, true, true, true, true, true, true, true, true, true, true, true, true, true, true, true, true, true, true, true, true, true, true, true, true, true, true, true, true, true, true, true, true, true, false, false] (fun k => [(21, .d (.int k)), (7, .own 2 0 (joinLT A B k).length), (8, .own 3 0 (joinLT A B k).length)]) (fun k => [(2, iv (joinLT A B k)), (3, iv ((joinLT A B k).map (atT T)))]) (fun _ => by (simp only [go_sem, seval, reduceCtorEq, dropF_ch, dropF_cons, dropF_nil, cut, cond_true, cond_false]); first | done | rfl) (fun _ => by (simp only [go_sem, seval, reduceCtorEq, cut]); first | done | rfl) (Nat.le_of_ble_eq_true rfl) (by first | (simp only [go_sem, seval, reduceCtorEq, dropF_ch, dropF_cons, dropF_nil, cut, cond_true, cond_false, Int.natCast_zero, Int.natCast_add, Int.natCast_one, joinLT_zero]; done) | rfl | (simp only [go_sem, seval, reduceCtorEq, dropF_ch, dropF_cons, dropF_nil, cut, cond_true, cond_false, Int.natCast_zero, Int.natCast_add, Int.natCast_one, joinLT_zero]; rfl)) (by first | (simp only [go_sem, seval, reduceCtorEq, dropF_ch, dropF_cons, dropF_nil, cut, cond_true, cond_false, Int.natCast_zero, Int.natCast_add, Int.natCast_one, joinLT_zero]; done) | rfl | (simp only [go_sem, seval, reduceCtorEq, dropF_ch, dropF_cons, dropF_nil, cut, cond_true, cond_false, Int.natCast_zero, Int.natCast_add, Int.natCast_one, joinLT_zero]; rfl)) fun k hk => ?_
  unfold L0_spec_l08Join
  by_cases hlt : k < B.length
  · have h1 : (k : Int) < B.length := by omega
    have hx : B[k]? = some B[k] := List.getElem?_eq_getElem hlt
    have hf := fresh_of hb hlt
    have hdx : (B.map (atT T))[k]? = some (atT T B[k]) := by simp [hlt]
    have n1 := joinLT_len A B k
    have n2 : ((joinLT A B k).map (atT T)).length = (joinLT A B k).length := List.length_map ..
    simp (disch := omega) only [go_sem, seval, reduceCtorEq, h1, hx]
    (refine ti_call (l05Find_d (xs := joinLT A B k) (x := B[k]) (by omega)) ?_ ?_ ?_; (focus (simp only [go_sem, seval, reduceCtorEq]; done)); (first | rfl | (focus (simp only [go_sem]; done))))
    by_cases hma : B[k] ∈ A
    · obtain ⟨i, hi, hp, hi2, _⟩ := place_mem (xs := joinLT A B k) (x := B[k]) (by rw [joinLT]; exact List.mem_append_left _ hma)
      have c1 : (i : Int) ≥ 0 := by omega
      have c0 : ¬ (i : Int) < 0 := by omega
      have c2 : (i : Int) < (joinLT A B k).length := by omega
      have hi5 : ((joinLT A B k).map (atT T))[i]? = some (atT T B[k]) := by rw [List.getElem?_map, List.getElem?_eq_getElem hi, hi2]; rfl
      have he : (atT T B[k] != atT T B[k]) = false := by simp
      simp (disch := omega) only [go_sem, seval, reduceCtorEq, hp, c0, c1, c2, ← List.getElem?_map, hi5, h1, hdx, he]
      (refine Next.drop [false, false, false, false, true, true, true, false, false, true, true, true, false, false, true, false, false, true, false, false, false, false, true, true, true, true, true, true, true, true, true, true, true, true, true, true, true, true, true, true, true, true, true, true, true, true, true, true, true, true, true, true, true, true, true, true, true, true, false, false] (by omega) (Nat.le_of_ble_eq_true rfl) ?_ ?_ <;> first | (simp only [go_sem, seval, reduceCtorEq, dropF_ch, dropF_cons, dropF_nil, cut, cond_true, cond_false, Int.natCast_zero, Int.natCast_add, Int.natCast_one, joinLT_yes hlt hma]; done) | rfl | (simp only [go_sem, seval, reduceCtorEq, dropF_ch, dropF_cons, dropF_nil, cut, cond_true, cond_false, Int.natCast_zero, Int.natCast_add, Int.natCast_one, joinLT_yes hlt hma]; rfl) | skip)
    · have hp := place_no (joinLT_fresh hlt hf hma)
      simp (disch := omega) only [go_sem, seval, reduceCtorEq, hp, h1, hdx, n2]
      (repeat (refine And.intro (by omega) ?_))
      (refine Next.drop [false, false, false, false, true, true, true, false, false, true, true, true, false, false, true, false, false, true, false, false, false, false, true, true, true, true, true, true, true, true, true, true, true, true, true, true, true, true, true, true, true, true, true, true, true, true, true, true, true, true, true, true, true, true, true, true, true, true, false, false] (by omega) (Nat.le_of_ble_eq_true rfl) ?_ ?_ <;> first | (simp only [go_sem, seval, reduceCtorEq, dropF_ch, dropF_cons, dropF_nil, cut, cond_true, cond_false, Int.natCast_zero, Int.natCast_add, Int.natCast_one, joinLT_no hlt hma, List.length_append, List.map_append, List.map_cons, List.map_nil]; done) | rfl | (simp only [go_sem, seval, reduceCtorEq, dropF_ch, dropF_cons, dropF_nil, cut, cond_true, cond_false, Int.natCast_zero, Int.natCast_add, Int.natCast_one, joinLT_no hlt hma, List.length_append, List.map_append, List.map_cons, List.map_nil]; rfl) | skip)
  · have h1 : ¬ (k : Int) < B.length := by omega
    obtain rfl : k = B.length := by omega
    simp (disch := omega) only [go_sem, seval, reduceCtorEq, h1, joinLT_all]
    (refine FnEnd.mk (Nat.le_of_ble_eq_true rfl) rfl (of_decide_eq_true rfl) ?_ ?_ <;> try simp only [go_sem, seval, reduceCtorEq])
/-! ### What is kept -/
section
variable {s : Osd} {os : List Int} {a b q m : Nat}
end
/-! ### The first state -/
theorem dimAt_netO {N : Net} (h : netOk N = true) {t : Ten} (ht : t ∈ N.ts) {x : Int} (hx : x ∈ t.labels) : dimAt t x = dimN N.ts x := by
  obtain ⟨k, hk, rfl⟩ := List.mem_iff_getElem.1 ht
  have hax := netOk_ax h
  have hc := (netOk_iff.1 h).2.2.2.1 k hk x hk hx
  have hd := dimAt_bd (hax _ (List.getElem_mem hk)) hx
  have h1 : dimN (N.ts.take (k + 1)) x = dimAt N.ts[k] x := by
    rw [dimN_next hax hk, if_pos hx]
    split
    · rfl
    · rcases hc with e | e
      · rename_i h0; exact absurd e h0
      · exact e
  have h2 := dimN_app (N.ts.take (k + 1)) (N.ts.drop (k + 1)) x fun t ht hx => by
    have := dimAt_bd (hax t (List.mem_of_mem_take ht)) hx
    omega
  rw [List.take_append_drop, h1, if_neg (by omega)] at h2
  exact h2.symm
theorem dims_net {N : Net} (h : netOk N = true) {t : Ten} (ht : t ∈ N.ts) : t.labels.map (atT (dimsR N.ts).1) = t.dims := by
  have hax := netOk_ax h
  have hok := (netOk_iff.1 h).2.2.2.1
  have hD := dimsR_ok hax
  rw [← dims_map (hax t ht)]
  refine List.map_congr_left fun x hx => ?_
  have hb : 0 ≤ x ∧ x ≤ 99 := by
    obtain ⟨k, hk, rfl⟩ := List.getElem_of_mem hx
    have := (hax t ht).2.2 k hk
    unfold axAt at this
    rw [getD_of hk] at this
    omega
  rw [hD.2 (hD.1.2 hok) x hb, dimAt_netO h ht hx]
/-! ### A step -/
def capP (T L : List Int) : Int := min (prodI (L.map (atT T))) 1000000000
end Go.Proofs.Ytcgnehacihjnkaa
