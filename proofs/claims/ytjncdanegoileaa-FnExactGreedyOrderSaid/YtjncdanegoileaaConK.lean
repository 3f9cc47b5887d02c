/-
  Contracts: what the contraction of two tensors calls. No condition.
-/
import Derived.Test.YtjncdanegoileaaMgGreedyOrderA
import Derived.Test.YtjncdanegoileaaConR
import Derived.Test.YtjncdanegoileaaPlK
namespace Go.Proofs.Ytjncdanegoileaa
open Go.RowKit Go.Lift Plain
set_option linter.unusedSimpArgs false
set_option linter.unusedVariables false
set_option maxRecDepth 100000

/-! ### Labels that are kept -/
theorem l08Keep_d {ls ds keep : List Int} (hn : ls.Nodup) (h : ls.length ≤ 1048576) (hl : ls.length = ds.length) (hk : keep.length ≤ 1073741824) : Does Try.prog 122 [.d (ints ls), .d (ints ds), .d (ints keep)] [] (.agg [.own 0 0 (ls.filter (has keep)).length, .own 1 0 (ls.filter (has keep)).length, .nil]) [some ⟨1, true, iv (ls.filter (has keep))⟩, some ⟨1, true, iv ((ls.filter (has keep)).map (dAt ls ds))⟩] := by
  (refine spec_of (by kernel_rfl) Try.func122 k_spec_l08Keep (fnOk (Nat.le_of_ble_eq_true rfl) ?_); unfold C_spec_l08Keep)
  (simp only [Nat.reduceSub, List.length_cons, List.length_nil, Nat.reduceAdd, ch_init1, ch_init2, ch_init3, ch_init4, ch_init5, ch_init6, ch_init7, ch_init8]; try simp only [ch_rep]); (simp only [go_sem, seval, reduceCtorEq, List.replicate])
  (refine wpN_lwk (Wk.nilS 1 0 1 _ _ _ rfl rfl) ?_; simp only [go_sem, seval, reduceCtorEq])
  (refine wpN_lwk (Wk.nilS 1 1 1 _ _ _ rfl rfl) ?_; simp only [go_sem, seval, reduceCtorEq])
  refine wpN_lp (ls.length) [false, false, false, false, false, false, false, false, true, true, false, false, false, false, true, true, true, true, true, true, true, true, true, true, true, true, true, true, true, true, true, true, true, true, true, true, true, true, false] (fun k => [(13, .d (.int k))]) (fun k => [(1, [.own 2 0 ((ls.take k).filter (has keep)).length, .own 3 0 ((ls.take k).filter (has keep)).length, .nil]), (2, iv ((ls.take k).filter (has keep))), (3, iv (((ls.take k).filter (has keep)).map (dAt ls ds)))]) (fun _ => by (simp only [go_sem, seval, reduceCtorEq, dropF_ch, dropF_cons, dropF_nil, cut, cond_true, cond_false]); first | done | rfl) (fun _ => by (simp only [go_sem, seval, reduceCtorEq, cut]); first | done | rfl) (Nat.le_of_ble_eq_true rfl) (by first | (simp only [go_sem, seval, reduceCtorEq, dropF_ch, dropF_cons, dropF_nil, cut, cond_true, cond_false, Int.natCast_zero, Int.natCast_add, Int.natCast_one, List.take_zero, List.filter_nil, List.map_nil, iv_nil]; done) | rfl | (simp only [go_sem, seval, reduceCtorEq, dropF_ch, dropF_cons, dropF_nil, cut, cond_true, cond_false, Int.natCast_zero, Int.natCast_add, Int.natCast_one, List.take_zero, List.filter_nil, List.map_nil, iv_nil]; rfl)) (by first | (simp only [go_sem, seval, reduceCtorEq, dropF_ch, dropF_cons, dropF_nil, cut, cond_true, cond_false, Int.natCast_zero, Int.natCast_add, Int.natCast_one, List.take_zero, List.filter_nil, List.map_nil, iv_nil]; done) | rfl | (simp only [go_sem, seval, reduceCtorEq, dropF_ch, dropF_cons, dropF_nil, cut, cond_true, cond_false, Int.natCast_zero, Int.natCast_add, Int.natCast_one, List.take_zero, List.filter_nil, List.map_nil, iv_nil]; rfl)) fun k hk => ?_
  unfold L0_spec_l08Keep
  have hfl := filter_len ls k (has keep)
  have hkl : (((ls.take k).filter (has keep)).map (dAt ls ds)).length = ((ls.take k).filter (has keep)).length := List.length_map ..
  by_cases hlt : k < ls.length
  · have d1 : (k : Int) < ls.length := by omega
    have d2 : (k : Int) < ds.length := by omega
    have g : ls[k]? = some ls[k] := List.getElem?_eq_getElem hlt
    have g2 : ds[k]? = some (dAt ls ds ls[k]) := by rw [dAt_at hn hlt, getD_of (by omega)]; exact List.getElem?_eq_getElem (by omega)
    simp (disch := omega) only [go_sem, seval, reduceCtorEq, d1, g]
    (refine ti_call (l05Find_d (xs := keep) (x := ls[k]) (by omega)) ?_ ?_ ?_; (focus (simp only [go_sem, seval, reduceCtorEq]; done)); (first | rfl | (focus (simp only [go_sem]; done))))
    by_cases hm : ls[k] ∈ keep
    · have hh : has keep ls[k] = true := has_true.2 hm
      have c : place keep ls[k] ≥ 0 := by
        have h0 : ¬ place keep ls[k] < 0 := fun e => place_neg.1 e hm
        omega
      have e := filter_yes (p := has keep) hlt hh
      simp (disch := omega) only [go_sem, seval, reduceCtorEq, c, d2, g2, hkl]
      (repeat (refine And.intro (by omega) ?_))
      (refine Next.drop [false, false, false, false, false, false, false, false, true, true, false, false, false, false, true, true, true, true, true, true, true, true, true, true, true, true, true, true, true, true, true, true, true, true, true, true, true, true, false] (by omega) (Nat.le_of_ble_eq_true rfl) ?_ ?_ <;> first | (simp only [go_sem, seval, reduceCtorEq, dropF_ch, dropF_cons, dropF_nil, cut, cond_true, cond_false, Int.natCast_zero, Int.natCast_add, Int.natCast_one, e, List.length_append, List.map_append, List.map_cons, List.map_nil]; done) | rfl | (simp only [go_sem, seval, reduceCtorEq, dropF_ch, dropF_cons, dropF_nil, cut, cond_true, cond_false, Int.natCast_zero, Int.natCast_add, Int.natCast_one, e, List.length_append, List.map_append, List.map_cons, List.map_nil]; rfl) | skip)
    · have hh : has keep ls[k] = false := has_false.2 hm
      have c : ¬ place keep ls[k] ≥ 0 := by have := place_neg.2 hm; omega
      have e := filter_no (p := has keep) hlt hh
      simp (disch := omega) only [go_sem, seval, reduceCtorEq, c]
      (refine Next.drop [false, false, false, false, false, false, false, false, true, true, false, false, false, false, true, true, true, true, true, true, true, true, true, true, true, true, true, true, true, true, true, true, true, true, true, true, true, true, false] (by omega) (Nat.le_of_ble_eq_true rfl) ?_ ?_ <;> first | (simp only [go_sem, seval, reduceCtorEq, dropF_ch, dropF_cons, dropF_nil, cut, cond_true, cond_false, Int.natCast_zero, Int.natCast_add, Int.natCast_one, e]; done) | rfl | (simp only [go_sem, seval, reduceCtorEq, dropF_ch, dropF_cons, dropF_nil, cut, cond_true, cond_false, Int.natCast_zero, Int.natCast_add, Int.natCast_one, e]; rfl) | skip)
  · have d1 : ¬ (k : Int) < ls.length := by omega
    obtain rfl : k = ls.length := by omega
    simp (disch := omega) only [go_sem, seval, reduceCtorEq, d1, List.take_length]
    (refine FnEnd.mk (Nat.le_of_ble_eq_true rfl) rfl (of_decide_eq_true rfl) ?_ ?_ <;> try simp only [go_sem, seval, reduceCtorEq])
/-! ### Tensors of one value -/
/-! ### Strides, by the reference -/
theorem map_set {L : List Int} {f : Int → Int} {k : Nat} {v : Int} (hn : L.Nodup) (hk : k < L.length) : (L.map f).set k v = L.map fun x => if x = L[k] then v else f x := by
  refine List.ext_getElem (by simp) fun i h1 h2 => ?_
  have hi : i < L.length := by simpa using h2
  rw [List.getElem_set, List.getElem_map, List.getElem_map]
  by_cases e : k = i
  · subst e; simp
  · rw [if_neg e, if_neg (fun e2 => e (nodup_at hn hk hi e2.symm))]
end Go.Proofs.Ytjncdanegoileaa
