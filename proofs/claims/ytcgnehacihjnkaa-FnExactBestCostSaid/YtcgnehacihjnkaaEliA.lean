/-
  Contracts: lists of labels, buckets, eliminations. No condition.
-/
import Derived.Test.YtcgnehacihjnkaaMgBestCostA
import Derived.Test.YtcgnehacihjnkaaCoS
import Derived.Test.YtcgnehacihjnkaaNetF
import Derived.Test.YtcgnehacihjnkaaLiftI
namespace Go.Proofs.Ytcgnehacihjnkaa
open Go.RowKit Go.Lift Plain
set_option linter.unusedSimpArgs false
set_option linter.unusedVariables false
set_option maxRecDepth 100000

def ldv (L : List (List Int)) : List D := L.map ints
def lists (L : List (List Int)) : D := .sl L.length (ldv L)
def lsA (L : List (List Int)) : List AV := L.map fun l => .d (ints l)
section
variable {L M : List (List Int)} {l : List Int} {k : Nat}
theorem ldv_len : (ldv L).length = L.length := by simp [ldv]
theorem ldv_get (i : Nat) : (ldv L)[i]? = L[i]?.map ints := by simp [ldv]
theorem lsA_len : (lsA L).length = L.length := by simp [lsA]
theorem lsA_nil : lsA [] = [] := nr rfl
theorem lsA_snoc : lsA L ++ [.d (.sl l.length (dv l))] = lsA (L ++ [l]) := by simp [lsA, ints]
theorem cellsD_lsA : cellsD (lsA L) = some (ldv L) := by
  induction L with
  | nil => rfl
  | cons x l ih => simp only [lsA, ldv, List.map_cons, cellsD, cellD] at ih ⊢; rw [ih]
theorem rnL_lsA (ρ : Nat → Option Nat) : rnL ρ (lsA L) = lsA L := by
  induction L with
  | nil => rfl
  | cons x l ih => simp only [lsA, List.map_cons, rnL, rn] at ih ⊢; rw [ih]
theorem mapL_fz_lsA (k e : Nat) (ls : List D) : mapL (fzG k e ls) (lsA L) = lsA L := by
  rw [mapL_eq, lsA, List.map_map]
  exact List.map_congr_left fun x _ => rfl
theorem mapL_fz_iv (k e : Nat) (ls : List D) (xs : List Int) : mapL (fzG k e ls) (iv xs) = iv xs := by
  rw [mapL_eq, iv, List.map_map]
  exact List.map_congr_left fun x _ => rfl
end
attribute [go_sem] lists ldv_len ldv_get lsA_len rnL_lsA cellsD_lsA mapL_fz_lsA mapL_fz_iv lsA_snoc
def labL (ts : List Ten) : List (List Int) := ts.map Ten.labels
theorem labL_snoc {ts : List Ten} {k : Nat} (h : k < ts.length) : labL (ts.take (k + 1)) = labL (ts.take k) ++ [ts[k].labels] := by rw [labL, take_ss h, List.map_append]; rfl
theorem labL_ok {ts : List Ten} (h : axOks ts) : LOk (labL ts) := fun l hl => by
  obtain ⟨t, ht, rfl⟩ := List.mem_map.1 hl
  have hax := h t ht
  refine ⟨axOk_nodup hax, fun x hx => ?_⟩
  obtain ⟨k, hk, rfl⟩ := List.mem_iff_getElem.1 hx
  have := hax.2.2 k hk
  unfold axAt at this
  rw [getD_of hk] at this
  omega
theorem copyInts_f {xs : List Int} (h : xs.length ≤ 1099511627776) : Does Try.prog 143 [.d (ints xs)] [] (.d (ints xs)) [] := (copyInts_d h).fzI
theorem joinLabels_f {a b : List Int} (ha : a.length ≤ 1048576) (hb : b.length ≤ 1048576) : Does Try.prog 149 [.d (ints a), .d (ints b)] [] (.d (ints (joinL a b))) [] := (joinLabels_d ha hb).fzI
theorem withoutInt_f {xs : List Int} {x : Int} (h : xs.length ≤ 1099511627776) : Does Try.prog 107 [.d (ints xs), .d (.int x)] [] (.d (ints (xs.filter (· != x)))) [] := (withoutInt_d h).fzI
theorem labelLists_o {N : Net} (h : NSz 1048576 N) : Does Try.prog 91 [netA N] [] (.own 0 0 N.ts.length) [some ⟨1, true, lsA (labL N.ts)⟩] := by
  have hnl := h.l
  (refine spec_of (by kernel_rfl) Try.func91 k_impl_labelLists (fnOk (Nat.le_of_ble_eq_true rfl) ?_); unfold C_impl_labelLists)
  (simp only [Nat.reduceSub, List.length_cons, List.length_nil, Nat.reduceAdd, ch_init1, ch_init2, ch_init3, ch_init4, ch_init5, ch_init6, ch_init7, ch_init8]; try simp only [ch_rep]); (simp only [go_sem, seval, reduceCtorEq, List.replicate])
  (refine wpN_lwk (Wk.nilE 3 1 _ _ rfl) ?_; simp only [go_sem, seval, reduceCtorEq])
  refine wpN_lp (N.ts.length) [false, false, false, false, false, true, false, false, false, false, true, true, true, true, true, true, true, true, true, true, false] (fun k => [(3, .own 1 0 k), (9, .d (.int k))]) (fun k => [(1, lsA (labL (N.ts.take k)))]) (fun _ => by (simp only [go_sem, seval, reduceCtorEq, dropF_ch, dropF_cons, dropF_nil, cut, cond_true, cond_false]); first | done | rfl) (fun _ => by (simp only [go_sem, seval, reduceCtorEq, cut]); first | done | rfl) (Nat.le_of_ble_eq_true rfl) (by first | (simp only [go_sem, seval, reduceCtorEq, dropF_ch, dropF_cons, dropF_nil, cut, cond_true, cond_false, Int.natCast_zero, Int.natCast_add, Int.natCast_one, List.take_zero, labL, List.map_nil, lsA_nil]; done) | rfl | (simp only [go_sem, seval, reduceCtorEq, dropF_ch, dropF_cons, dropF_nil, cut, cond_true, cond_false, Int.natCast_zero, Int.natCast_add, Int.natCast_one, List.take_zero, labL, List.map_nil, lsA_nil]; rfl)) (by first | (simp only [go_sem, seval, reduceCtorEq, dropF_ch, dropF_cons, dropF_nil, cut, cond_true, cond_false, Int.natCast_zero, Int.natCast_add, Int.natCast_one, List.take_zero, labL, List.map_nil, lsA_nil]; done) | rfl | (simp only [go_sem, seval, reduceCtorEq, dropF_ch, dropF_cons, dropF_nil, cut, cond_true, cond_false, Int.natCast_zero, Int.natCast_add, Int.natCast_one, List.take_zero, labL, List.map_nil, lsA_nil]; rfl)) fun k hk => ?_
  unfold L0_impl_labelLists
  have htl : (labL (N.ts.take k)).length = k := by simp [labL]; omega
  by_cases hlt : k < N.ts.length
  · have d1 : (k : Int) < N.ts.length := by omega
    have g3 := tcs_cut (List.getElem?_eq_getElem hlt)
    have hst := h.t N.ts[k] (List.getElem_mem hlt)
    simp (disch := omega) only [go_sem, seval, reduceCtorEq, d1, g3]
    (repeat (refine And.intro (by omega) ?_))
    (refine ti_call (copyInts_f (xs := N.ts[k].labels) hst.l.up.len) ?_ ?_ ?_; (focus (simp only [go_sem, seval, reduceCtorEq]; done)); (first | rfl | (focus (simp only [go_sem]; done))))
    simp (disch := omega) only [go_sem, seval, reduceCtorEq, htl]
    (repeat (refine And.intro (by omega) ?_))
    (refine Next.drop [false, false, false, false, false, true, false, false, false, false, true, true, true, true, true, true, true, true, true, true, false] (by omega) (Nat.le_of_ble_eq_true rfl) ?_ ?_ <;> first | (simp only [go_sem, seval, reduceCtorEq, dropF_ch, dropF_cons, dropF_nil, cut, cond_true, cond_false, Int.natCast_zero, Int.natCast_add, Int.natCast_one, labL_snoc hlt]; done) | rfl | (simp only [go_sem, seval, reduceCtorEq, dropF_ch, dropF_cons, dropF_nil, cut, cond_true, cond_false, Int.natCast_zero, Int.natCast_add, Int.natCast_one, labL_snoc hlt]; rfl) | skip)
  · have d1 : ¬ (k : Int) < N.ts.length := by omega
    obtain rfl : k = N.ts.length := by omega
    simp (disch := omega) only [go_sem, seval, reduceCtorEq, d1, List.take_length]
    (refine FnEnd.mk (Nat.le_of_ble_eq_true rfl) rfl (of_decide_eq_true rfl) ?_ ?_ <;> try simp only [go_sem, seval, reduceCtorEq])
theorem labelLists_d {N : Net} (h : NSz 1048576 N) : Does Try.prog 91 [netA N] [] (.d (lists (labL N.ts))) [] := by
  have h1 := Does.fz (labelLists_o h) cellsD_lsA (by rw [ldv_len]; simp [labL])
  have e : (labL N.ts).length = N.ts.length := by simp [labL]
  rw [lists, e]
  exact h1
theorem bucketLabels_d {L : List (List Int)} {x : Int} (h : LOk L) (hl : L.length ≤ 1048576) : Does Try.prog 93 [.d (lists L), .d (.int x)] [] (.d (ints (bucket L x))) [] := by
  (refine spec_of (by kernel_rfl) Try.func93 k_impl_bucketLabels (fnOk (Nat.le_of_ble_eq_true rfl) ?_); unfold C_impl_bucketLabels)
  (simp only [Nat.reduceSub, List.length_cons, List.length_nil, Nat.reduceAdd, ch_init1, ch_init2, ch_init3, ch_init4, ch_init5, ch_init6, ch_init7, ch_init8]; try simp only [ch_rep]); (simp only [go_sem, seval, reduceCtorEq, List.replicate])
  refine wpN_lwk (Wk.nilD 5 _ _ rfl) ?_
  simp only [go_sem, seval, reduceCtorEq]
  refine wpN_lp (L.length) [false, false, false, false, false, false, false, true, false, false, false, true, true, true, true, true, true, true, true, true, true, false] (fun k => [(5, .d (ints (buckTo L x k))), (10, .d (.int k))]) (fun k => []) (fun _ => by (simp only [go_sem, seval, reduceCtorEq, dropF_ch, dropF_cons, dropF_nil, cut, cond_true, cond_false]); first | done | rfl) (fun _ => by (simp only [go_sem, seval, reduceCtorEq, cut]); first | done | rfl) (Nat.le_of_ble_eq_true rfl) (by first | (simp only [go_sem, seval, reduceCtorEq, dropF_ch, dropF_cons, dropF_nil, cut, cond_true, cond_false, Int.natCast_zero, Int.natCast_add, Int.natCast_one, buckTo, List.length_nil, dv_nil]; done) | rfl | (simp only [go_sem, seval, reduceCtorEq, dropF_ch, dropF_cons, dropF_nil, cut, cond_true, cond_false, Int.natCast_zero, Int.natCast_add, Int.natCast_one, buckTo, List.length_nil, dv_nil]; rfl)) (by first | (simp only [go_sem, seval, reduceCtorEq, dropF_ch, dropF_cons, dropF_nil, cut, cond_true, cond_false, Int.natCast_zero, Int.natCast_add, Int.natCast_one, buckTo, List.length_nil, dv_nil]; done) | rfl | (simp only [go_sem, seval, reduceCtorEq, dropF_ch, dropF_cons, dropF_nil, cut, cond_true, cond_false, Int.natCast_zero, Int.natCast_add, Int.natCast_one, buckTo, List.length_nil, dv_nil]; rfl)) fun k hk => ?_
  unfold L0_impl_bucketLabels
  by_cases hlt : k < L.length
  · have d1 : (k : Int) < L.length := by omega
    have g : L[k]? = some L[k] := List.getElem?_eq_getElem hlt
    have hk1 := h L[k] (List.getElem_mem hlt)
    have hkl := nodup_len hk1.1 hk1.2
    have hbk := buckTo_ok (x := x) h k hk
    have hbl := nodup_len hbk.1 hbk.2
    simp (disch := omega) only [go_sem, seval, reduceCtorEq, d1, g]
    (refine ti_call (hasInt_d (xs := L[k]) (x := x) (by omega)) ?_ ?_ ?_; (focus (simp only [go_sem, seval, reduceCtorEq]; done)); (first | rfl | (focus (simp only [go_sem]; done))))
    cases hh : has L[k] x
    · simp (disch := omega) only [go_sem, seval, reduceCtorEq, hh]
      (refine Next.drop [false, false, false, false, false, false, false, true, false, false, false, true, true, true, true, true, true, true, true, true, true, false] (by omega) (Nat.le_of_ble_eq_true rfl) ?_ ?_ <;> first | (simp only [go_sem, seval, reduceCtorEq, dropF_ch, dropF_cons, dropF_nil, cut, cond_true, cond_false, Int.natCast_zero, Int.natCast_add, Int.natCast_one, buckTo_no hlt hh]; done) | rfl | (simp only [go_sem, seval, reduceCtorEq, dropF_ch, dropF_cons, dropF_nil, cut, cond_true, cond_false, Int.natCast_zero, Int.natCast_add, Int.natCast_one, buckTo_no hlt hh]; rfl) | skip)
    · simp (disch := omega) only [go_sem, seval, reduceCtorEq, hh]
      (refine ti_call (joinLabels_f (a := buckTo L x k) (b := L[k]) (by omega) (by omega)) ?_ ?_ ?_; (focus (simp only [go_sem, seval, reduceCtorEq]; done)); (first | rfl | (focus (simp only [go_sem]; done))))
      simp (disch := omega) only [go_sem, seval, reduceCtorEq]
      (refine Next.drop [false, false, false, false, false, false, false, true, false, false, false, true, true, true, true, true, true, true, true, true, true, false] (by omega) (Nat.le_of_ble_eq_true rfl) ?_ ?_ <;> first | (simp only [go_sem, seval, reduceCtorEq, dropF_ch, dropF_cons, dropF_nil, cut, cond_true, cond_false, Int.natCast_zero, Int.natCast_add, Int.natCast_one, buckTo_yes hlt hh]; done) | rfl | (simp only [go_sem, seval, reduceCtorEq, dropF_ch, dropF_cons, dropF_nil, cut, cond_true, cond_false, Int.natCast_zero, Int.natCast_add, Int.natCast_one, buckTo_yes hlt hh]; rfl) | skip)
  · have d1 : ¬ (k : Int) < L.length := by omega
    obtain rfl : k = L.length := by omega
    simp (disch := omega) only [go_sem, seval, reduceCtorEq, d1]
    (refine FnEnd.mk (Nat.le_of_ble_eq_true rfl) rfl (of_decide_eq_true rfl) ?_ ?_ <;> try simp only [go_sem, seval, reduceCtorEq])
    all_goals rfl
theorem eliminateFrom_d {L : List (List Int)} {x : Int} (h : LOk L) (hl : L.length ≤ 1048575) : Does Try.prog 92 [.d (lists L), .d (.int x)] [] (.d (lists (elimL L x))) [] := by
  refine Does.fz (g := true) (c := lsA (elimL L x)) ?_ cellsD_lsA (by rw [ldv_len, Nat.mul_one])
  (refine spec_of (by kernel_rfl) Try.func92 k_impl_eliminateFrom (fnOk (Nat.le_of_ble_eq_true rfl) ?_); unfold C_impl_eliminateFrom)
  (simp only [Nat.reduceSub, List.length_cons, List.length_nil, Nat.reduceAdd, ch_init1, ch_init2, ch_init3, ch_init4, ch_init5, ch_init6, ch_init7, ch_init8]; try simp only [ch_rep]); (simp only [go_sem, seval, reduceCtorEq, List.replicate])
  (refine wpN_lwk (Wk.nilE 5 1 _ _ rfl) ?_; simp only [go_sem, seval, reduceCtorEq])
  refine wpN_lp (L.length) [false, false, false, false, false, false, false, true, false, false, false, true, true, true, true, true, true, true, true, true, true, true, true, false, false, false, false, false, false, false, false] (fun k => [(5, .own 0 0 (restTo L x k).length), (10, .d (.int k))]) (fun k => [(0, lsA (restTo L x k))]) (fun _ => by (simp only [go_sem, seval, reduceCtorEq, dropF_ch, dropF_cons, dropF_nil, cut, cond_true, cond_false]); first | done | rfl) (fun _ => by (simp only [go_sem, seval, reduceCtorEq, cut]); first | done | rfl) (Nat.le_of_ble_eq_true rfl) (by first | (simp only [go_sem, seval, reduceCtorEq, dropF_ch, dropF_cons, dropF_nil, cut, cond_true, cond_false, Int.natCast_zero, Int.natCast_add, Int.natCast_one, restTo, List.take_zero, List.filter_nil, lsA_nil]; done) | rfl | (simp only [go_sem, seval, reduceCtorEq, dropF_ch, dropF_cons, dropF_nil, cut, cond_true, cond_false, Int.natCast_zero, Int.natCast_add, Int.natCast_one, restTo, List.take_zero, List.filter_nil, lsA_nil]; rfl)) (by first | (simp only [go_sem, seval, reduceCtorEq, dropF_ch, dropF_cons, dropF_nil, cut, cond_true, cond_false, Int.natCast_zero, Int.natCast_add, Int.natCast_one, restTo, List.take_zero, List.filter_nil, lsA_nil]; done) | rfl | (simp only [go_sem, seval, reduceCtorEq, dropF_ch, dropF_cons, dropF_nil, cut, cond_true, cond_false, Int.natCast_zero, Int.natCast_add, Int.natCast_one, restTo, List.take_zero, List.filter_nil, lsA_nil]; rfl)) fun k hk => ?_
  unfold L0_impl_eliminateFrom
  have hrl := restTo_len (L := L) (x := x) (k := k)
  by_cases hlt : k < L.length
  · have d1 : (k : Int) < L.length := by omega
    have g : L[k]? = some L[k] := List.getElem?_eq_getElem hlt
    have hk1 := h L[k] (List.getElem_mem hlt)
    have hkl := nodup_len hk1.1 hk1.2
    simp (disch := omega) only [go_sem, seval, reduceCtorEq, d1, g]
    (refine ti_call (hasInt_d (xs := L[k]) (x := x) (by omega)) ?_ ?_ ?_; (focus (simp only [go_sem, seval, reduceCtorEq]; done)); (first | rfl | (focus (simp only [go_sem]; done))))
    cases hh : has L[k] x
    · simp (disch := omega) only [go_sem, seval, reduceCtorEq, hh]
      (repeat (refine And.intro (by omega) ?_))
      (refine Next.drop [false, false, false, false, false, false, false, true, false, false, false, true, true, true, true, true, true, true, true, true, true, true, true, false, false, false, false, false, false, false, false] (by omega) (Nat.le_of_ble_eq_true rfl) ?_ ?_ <;> first | (simp only [go_sem, seval, reduceCtorEq, dropF_ch, dropF_cons, dropF_nil, cut, cond_true, cond_false, Int.natCast_zero, Int.natCast_add, Int.natCast_one, restTo_yes hlt hh, List.length_append]; done) | rfl | (simp only [go_sem, seval, reduceCtorEq, dropF_ch, dropF_cons, dropF_nil, cut, cond_true, cond_false, Int.natCast_zero, Int.natCast_add, Int.natCast_one, restTo_yes hlt hh, List.length_append]; rfl) | skip)
    · simp (disch := omega) only [go_sem, seval, reduceCtorEq, hh]
      (refine Next.drop [false, false, false, false, false, false, false, true, false, false, false, true, true, true, true, true, true, true, true, true, true, true, true, false, false, false, false, false, false, false, false] (by omega) (Nat.le_of_ble_eq_true rfl) ?_ ?_ <;> first | (simp only [go_sem, seval, reduceCtorEq, dropF_ch, dropF_cons, dropF_nil, cut, cond_true, cond_false, Int.natCast_zero, Int.natCast_add, Int.natCast_one, restTo_no hlt hh]; done) | rfl | (simp only [go_sem, seval, reduceCtorEq, dropF_ch, dropF_cons, dropF_nil, cut, cond_true, cond_false, Int.natCast_zero, Int.natCast_add, Int.natCast_one, restTo_no hlt hh]; rfl) | skip)
  · have d1 : ¬ (k : Int) < L.length := by omega
    obtain rfl : k = L.length := by omega
    have hbl := bucket_len h x
    simp (disch := omega) only [go_sem, seval, reduceCtorEq, d1]
    (refine ti_call (bucketLabels_d (L := L) (x := x) h (by omega)) ?_ ?_ ?_; (focus (simp only [go_sem, seval, reduceCtorEq]; done)); (first | rfl | (focus (simp only [go_sem]; done))))
    simp (disch := omega) only [go_sem, seval, reduceCtorEq]
    (refine ti_call (withoutInt_f (xs := bucket L x) (x := x) (by omega)) ?_ ?_ ?_; (focus (simp only [go_sem, seval, reduceCtorEq]; done)); (first | rfl | (focus (simp only [go_sem]; done))))
    simp (disch := omega) only [go_sem, seval, reduceCtorEq]
    (repeat (refine And.intro (by omega) ?_))
    (refine FnEnd.mk (Nat.le_of_ble_eq_true rfl) rfl (of_decide_eq_true rfl) ?_ ?_ <;> try simp only [go_sem, seval, reduceCtorEq])
    all_goals simp only [elimL, List.length_append, List.length_cons, List.length_nil]
end Go.Proofs.Ytcgnehacihjnkaa
