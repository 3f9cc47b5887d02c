/-
 Contracts: labels chosen for slicing. No condition.
-/
import Derived.Test.YtndmbmmnbocmhaaSlQ
import Derived.Test.YtndmbmmnbocmhaaMgSliceLimitA
set_option linter.unusedSimpArgs false
set_option linter.unusedVariables false
namespace Go.Proofs.Ytndmbmmnbocmhaa
open Go.RowKit Go.Lift Plain
set_option maxRecDepth 100000
section
variable (N : Net) (n : Nat) (F : List Int) (lim : Int)
open Classical in
noncomputable def bst (L : List Int) : Nat → Int × Int
 | 0 => (-1, 0)
 | k + 1 => if (closedL N).getD k 0 ∈ L then bst L k else if (bst L k).1 < 0 ∨ pkS N n F (L ++ [(closedL N).getD k 0]) < (bst L k).2 then ((closedL N).getD k 0, pkS N n F (L ++ [(closedL N).getD k 0])) else bst L k
noncomputable def chs : Nat → List Int → List Int × Bool
 | 0, _ => ([], false)
 | f + 1, L => if lim < pkS N n F L then (if L.length = 4 ∨ (bst N n F L (closedL N).length).1 < 0 then ([], false) else chs f (L ++ [(bst N n F L (closedL N).length).1])) else (L, true)
end
theorem bst_in {N : Net} {n : Nat} {F L : List Int} (hok : netOk N = true) : ∀ k, k ≤ (closedL N).length → (bst N n F L k).1 = -1 ∨ (0 ≤ (bst N n F L k).1 ∧ (bst N n F L k).1 ∈ closedL N ∧ (bst N n F L k).1 ∉ L)
 | 0, _ => .inl rfl
 | k + 1, hk => by
  have ih := bst_in (n := n) (F := F) (L := L) hok k (by omega)
  have hm := mem_of_get (closedL N) k (by omega)
  rw [bst]
  split
  ·exact ih
  ·rename_i hn
   split
   ·exact .inr ⟨(closed_dim hok hm).1.1, hm, hn⟩
   ·exact ih
theorem ClsOk.snoc {N : Net} {L : List Int} {x : Int} (h : ClsOk N L) (hx : x ∈ closedL N) (hn : x ∉ L) : ClsOk N (L ++ [x]) :=
 ⟨h.ok, h.sz, fun y hy => by
  rcases List.mem_append.1 hy with h1 | h1
  ·exact h.mem y h1
  ·rw [List.mem_singleton.1 h1]; exact hx,
  List.nodup_append.2 ⟨h.nd, by simp, fun y hy z hz e => hn (by rw [← List.mem_singleton.1 hz, ← e]; exact hy)⟩⟩
structure ChI (N : Net) (n : Nat) (F : List Int) (lim : Int) (L : List Int) : Prop where
 cls : ClsOk N L
 len : L.length ≤ 4
 run : chs N n F lim (5 - L.length) L = chs N n F lim 5 []
 pre : ∀ i, i < L.length → lim < pkS N n F (L.take i)
theorem ChI.zero {N : Net} (hok : netOk N = true) (hz : NSz 1048576 N) (n : Nat) (F : List Int) (lim : Int) : ChI N n F lim [] :=
 ⟨⟨hok, hz, by simp, by simp⟩, by simp, rfl, fun i hi => by simp at hi⟩
theorem ChI.done {N : Net} {n : Nat} {F : List Int} {lim : Int} {L : List Int} (h : ChI N n F lim L) (hp : ¬ lim < pkS N n F L) : chs N n F lim 5 [] = (L, true) := by
 have hl := h.len
 rw [← h.run, show 5 - L.length = 4 - L.length + 1 by omega, chs, if_neg hp]
theorem ChI.fail {N : Net} {n : Nat} {F : List Int} {lim : Int} {L : List Int} (h : ChI N n F lim L) (hp : lim < pkS N n F L) (hf : L.length = 4 ∨ (bst N n F L (closedL N).length).1 < 0) : chs N n F lim 5 [] = ([], false) := by
 have hl := h.len
 rw [← h.run, show 5 - L.length = 4 - L.length + 1 by omega, chs, if_pos hp, if_pos hf]
theorem ChI.next {N : Net} {n : Nat} {F : List Int} {lim : Int} {L : List Int} (h : ChI N n F lim L) (hp : lim < pkS N n F L) (h4 : L.length ≠ 4) (hb : ¬ (bst N n F L (closedL N).length).1 < 0) : ChI N n F lim (L ++ [(bst N n F L (closedL N).length).1]) := by
 have hl := h.len
 have hi := bst_in (n := n) (F := F) (L := L) h.cls.ok _ (Nat.le_refl _)
 refine ⟨h.cls.snoc (by rcases hi with e | e; omega; exact e.2.1) (by rcases hi with e | e; omega; exact e.2.2), by simp; omega, ?_, fun i hi => ?_⟩
 ·rw [← h.run, show 5 - L.length = (5 - (L ++ [(bst N n F L (closedL N).length).1]).length) + 1 by simp; omega]
  conv => rhs; rw [chs]
  rw [if_pos hp, if_neg (by omega)]
 ·simp only [List.length_append, List.length_cons, List.length_nil] at hi
  by_cases e : i = L.length
  ·subst e
   rw [List.take_append_of_le_length (Nat.le_refl _), List.take_length]
   exact hp
  ·rw [List.take_append_of_le_length (by omega)]
   exact h.pre i (by omega)
theorem chs_spec {N : Net} {n : Nat} {F : List Int} {lim : Int} : ∀ (f : Nat) (L : List Int), L.length + f = 5 → ChI N n F lim L → (chs N n F lim f L).2 = true → ChI N n F lim (chs N n F lim f L).1 ∧ ¬ lim < pkS N n F (chs N n F lim f L).1
 | 0, L, _, _, h2 => by cases h2
 | f + 1, L, hl, h, h2 => by
  rw [chs] at h2 ⊢
  split at h2
  ·rename_i hp
   rw [if_pos hp]
   split at h2
   ·cases h2
   ·rename_i hb
    rw [if_neg hb]
    simp only [not_or] at hb
    exact chs_spec f _ (by simp; omega) (h.next hp hb.1 hb.2) h2
  ·rename_i hp
   rw [if_neg hp]
   exact ⟨h, hp⟩
set_option maxRecDepth 100000
section
variable {N : Net} {n : Nat} {F L : List Int} {k : Nat}
theorem bst_skip (h : (closedL N).getD k 0 ∈ L) : bst N n F L (k + 1) = bst N n F L k := by rw [bst, if_pos h]
theorem bst_new (h : (closedL N).getD k 0 ∉ L) (h2 : (bst N n F L k).1 < 0 ∨ pkS N n F (L ++ [(closedL N).getD k 0]) < (bst N n F L k).2) : bst N n F L (k + 1) = ((closedL N).getD k 0, pkS N n F (L ++ [(closedL N).getD k 0])) := by rw [bst, if_neg h, if_pos h2]
theorem bst_old (h : (closedL N).getD k 0 ∉ L) (h2 : ¬ ((bst N n F L k).1 < 0 ∨ pkS N n F (L ++ [(closedL N).getD k 0]) < (bst N n F L k).2)) : bst N n F L (k + 1) = bst N n F L k := by rw [bst, if_neg h, if_neg h2]
end
set_option maxHeartbeats 3200000 in
theorem iChooseSlices_d {N : Net} {n : Nat} {F : List Int} {lim : Int} (hok : netOk N = true) (hz : NSz 1048576 N) (hF : StpSz 1048576 n F) (ho : orderOk N n F = true) :
  Does Try.prog 15 [netA N, .d (stp n F), .d (.int lim)] [] (.tup [.d (ints (chs N n F lim 5 []).1), .d (.bool (chs N n F lim 5 []).2)]) [] := by
 have hcl := (closedL_sz N).len
 generalize hR : chs N n F lim 5 [] = R
 (refine spec_ofK (by kernel_rfl) Try.func15 k_impl_ChooseSlices (fnOk (nb rfl) ?_); unfold C_impl_ChooseSlices)
 (simp only [Nat.reduceSub, List.length_cons, List.length_nil, Nat.reduceAdd, ch_init1, ch_init2, ch_init3, ch_init4, ch_init5, ch_init6, ch_init7, ch_init8]; try simp only [ch_rep]); (simp only [go_sem, seval, reduceCtorEq, List.replicate])
 (refine ti_call (iOrderOk_d hz hF) ?_ ?_ ?_; (focus (simp only [go_sem, seval, reduceCtorEq]; done)); (first | rfl | (focus (simp only [go_sem]; done))))
 simp only [go_sem, seval, reduceCtorEq, ho]
 (refine wpN_lwk (Wk.nilE 8 1 _ _ rfl) ?_; simp only [go_sem, seval, reduceCtorEq])
 refine wpN_lpS ([]) (fun L => 5 - L.length) (mkB 62 2305843009213445824) (fun L => ChI N n F lim L) (fun L => [(8, .own 1 0 L.length)]) (fun L => [(1, iv L)]) (hi := ChI.zero hok hz n F lim) (h1 := by first | (simp only [go_sem, seval, reduceCtorEq, nz, na, n1, iv_nil]; first | done | rfl) | rfl) (h2 := by first | (simp only [go_sem, seval, reduceCtorEq, nz, na, n1, iv_nil]; first | done | rfl) | rfl) (hr := fun L hi => ?_)
 unfold L1_impl_ChooseSlices
 have hcls := hi.cls
 have hL4 := hi.len
 simp (disch := omega) only [go_sem, seval, reduceCtorEq]
 (refine ti_call (iSlicedPeak_d (L := L) hcls hL4 hF ho) ?_ ?_ ?_; (focus (simp only [go_sem, seval, reduceCtorEq]; done)); (first | rfl | (focus (simp only [go_sem]; done))))
 by_cases hp : pkS N n F L > lim
 ·have hp' : lim < pkS N n F L := hp
  simp (disch := omega) only [go_sem, seval, reduceCtorEq, hp]
  by_cases h4 : L.length = 4
  ·have hd := hi.fail hp' (.inl h4)
   rw [hR] at hd
   subst hd
   have c4 : ((L.length : Int) == 4) = true := by simp [h4]
   simp (disch := omega) only [go_sem, seval, reduceCtorEq, c4]
   refine FnEnd.wk (Wk.nilD 6 _ _ rfl) ?_
   simp only [go_sem, seval, reduceCtorEq]
   (refine FnEnd.mk (nb rfl) rfl (of_decide_eq_true rfl) ?_ ?_ <;> try simp only [go_sem, seval, reduceCtorEq])
  have c4 : ((L.length : Int) == 4) = false := by simp; omega
  simp (disch := omega) only [go_sem, seval, reduceCtorEq, c4]
  (refine ti_call (iClosedLabels_d hz) ?_ ?_ ?_; (focus (simp only [go_sem, seval, reduceCtorEq]; done)); (first | rfl | (focus (simp only [go_sem]; done))))
  simp (disch := omega) only [go_sem, seval, reduceCtorEq]
  have b0 : bst N n F L 0 = (-1, 0) := rfl
  refine wpN_lp ((closedL N).length) (mkB 62 36028794871492608) (fun k => [(9, .d (.int (bst N n F L k).1)), (10, .d (.int (bst N n F L k).2)), (30, .d (.int k))]) (fun k => []) (h1 := by first | (simp only [go_sem, seval, reduceCtorEq, nz, na, n1, b0]; first | done | rfl) | rfl) (h2 := by first | (simp only [go_sem, seval, reduceCtorEq, nz, na, n1, b0]; first | done | rfl) | rfl) (hr := fun k hk => ?_)
  unfold L0_impl_ChooseSlices
  by_cases hlt : k < (closedL N).length
  ·have d1 : (k : Int) < (closedL N).length := by omega
   have g : (closedL N)[k]? = some (closedL N)[k] := List.getElem?_eq_getElem hlt
   have gd := getD_of hlt
   have hm : (closedL N)[k] ∈ closedL N := List.getElem_mem hlt
   simp (disch := omega) only [go_sem, seval, reduceCtorEq, d1, g, Option.map_some]
   (refine ti_call (hasInt_d (xs := L) (x := (closedL N)[k]) (by omega)) ?_ ?_ ?_; (focus (simp only [go_sem, seval, reduceCtorEq]; done)); (first | rfl | (focus (simp only [go_sem]; done))))
   cases hh : has L (closedL N)[k]
   ·have hn := has_false.1 hh
    have hll : (L ++ [(closedL N)[k]]).length = L.length + 1 := by simp
    have htl : (L ++ [(closedL N)[k]]).take (L.length + 1) = L ++ [(closedL N)[k]] := List.take_of_length_le (by omega)
    simp (disch := omega) only [go_sem, seval, reduceCtorEq, hh]
    (refine gi_call (copyInts_d (xs := L) (by omega)) ?_ ?_ ?_; (focus (simp only [go_sem, seval, reduceCtorEq]; done)); (first | rfl | (focus (simp only [go_sem]; done))))
    simp (disch := omega) only [go_sem, seval, reduceCtorEq]
    (repeat (refine And.intro (by omega) ?_))
    (refine ti_call (iSlicedPeak_d (L := L ++ [(closedL N)[k]]) (hcls.snoc hm hn) (by omega) hF ho) ?_ ?_ ?_; (focus (simp only [go_sem, seval, reduceCtorEq, hll, htl]; done)); (first | rfl | (focus (simp only [go_sem]; done))))
    by_cases b1 : (bst N n F L k).1 < 0
    ·have e := bst_new (n := n) (F := F) (k := k) (L := L) (by rw [gd]; exact hn) (.inl b1)
     rw [gd] at e
     simp (disch := omega) only [go_sem, seval, reduceCtorEq, b1]
     (refine Next.drop (mkB 62 36028794871492608) (by omega) (h1 := ?_) (h2 := ?_) <;> first | (simp only [go_sem, seval, reduceCtorEq, nz, na, n1, e]; first | done | rfl) | rfl | skip)
    ·by_cases b2 : pkS N n F (L ++ [(closedL N)[k]]) < (bst N n F L k).2
     ·have e := bst_new (n := n) (F := F) (k := k) (L := L) (by rw [gd]; exact hn) (.inr (by rw [gd]; exact b2))
      rw [gd] at e
      simp (disch := omega) only [go_sem, seval, reduceCtorEq, b1, b2]
      (refine Next.drop (mkB 62 36028794871492608) (by omega) (h1 := ?_) (h2 := ?_) <;> first | (simp only [go_sem, seval, reduceCtorEq, nz, na, n1, e]; first | done | rfl) | rfl | skip)
     ·have e := bst_old (n := n) (F := F) (k := k) (L := L) (by rw [gd]; exact hn) (by rw [gd]; exact fun h => h.elim b1 b2)
      simp (disch := omega) only [go_sem, seval, reduceCtorEq, b1, b2]
      (refine Next.drop (mkB 62 36028794871492608) (by omega) (h1 := ?_) (h2 := ?_) <;> first | (simp only [go_sem, seval, reduceCtorEq, nz, na, n1, e]; first | done | rfl) | rfl | skip)
   ·have e := bst_skip (n := n) (F := F) (k := k) (by rw [gd]; exact has_true.1 hh)
    simp (disch := omega) only [go_sem, seval, reduceCtorEq, hh]
    (refine Next.drop (mkB 62 36028794871492608) (by omega) (h1 := ?_) (h2 := ?_) <;> first | (simp only [go_sem, seval, reduceCtorEq, nz, na, n1, e]; first | done | rfl) | rfl | skip)
  ·have d1 : ¬ (k : Int) < (closedL N).length := by omega
   obtain rfl : k = (closedL N).length := by omega
   simp (disch := omega) only [go_sem, seval, reduceCtorEq, d1]
   by_cases hb : (bst N n F L (closedL N).length).1 < 0
   ·have hd := hi.fail hp' (.inr hb)
    rw [hR] at hd
    subst hd
    simp (disch := omega) only [go_sem, seval, reduceCtorEq, hb]
    refine FnEnd.wk (Wk.nilD 6 _ _ rfl) ?_
    simp only [go_sem, seval, reduceCtorEq]
    (refine FnEnd.mk (nb rfl) rfl (of_decide_eq_true rfl) ?_ ?_ <;> try simp only [go_sem, seval, reduceCtorEq])
   ·have hnx := hi.next hp' h4 hb
    have hll : (L ++ [(bst N n F L (closedL N).length).1]).length = L.length + 1 := by simp
    simp (disch := omega) only [go_sem, seval, reduceCtorEq, hb]
    (repeat (refine And.intro (by omega) ?_))
    (refine NextS.drop (mkB 62 2305843009213445824) (L ++ [(bst N n F L (closedL N).length).1]) (by omega) (hnx) (h1 := ?_) (h2 := ?_) <;> first | (simp only [go_sem, seval, reduceCtorEq, nz, na, n1, hll]; first | done | rfl) | rfl | skip)
 ·have hd := hi.done hp
  rw [hR] at hd
  subst hd
  simp (disch := omega) only [go_sem, seval, reduceCtorEq, hp]
  (refine FnEnd.wk (Wk.freeze 1 (nb rfl) rfl (cellsD_iv) rfl rfl) ?_); (simp only [go_sem, seval, reduceCtorEq, List.take_length])
  (refine FnEnd.mk (nb rfl) rfl (of_decide_eq_true rfl) ?_ ?_ <;> try simp only [go_sem, seval, reduceCtorEq])
set_option maxHeartbeats 3200000 in
theorem sChooseSlices_d {N : Net} {n : Nat} {F : List Int} {lim : Int} (hok : netOk N = true) (hz : NSz 1048576 N) (hF : StpSz 1048576 n F) (ho : orderOk N n F = true) :
  Does Try.prog 16 [netA N, .d (stp n F), .d (.int lim)] [] (.tup [.d (ints (chs N n F lim 5 []).1), .d (.bool (chs N n F lim 5 []).2)]) [] := by
 have hcl := (closedL_sz N).len
 generalize hR : chs N n F lim 5 [] = R
 (refine spec_ofK (by kernel_rfl) Try.func16 k_spec_ChooseSlices (fnOk (nb rfl) ?_); unfold C_spec_ChooseSlices)
 (simp only [Nat.reduceSub, List.length_cons, List.length_nil, Nat.reduceAdd, ch_init1, ch_init2, ch_init3, ch_init4, ch_init5, ch_init6, ch_init7, ch_init8]; try simp only [ch_rep]); (simp only [go_sem, seval, reduceCtorEq, List.replicate])
 (refine ti_call (sOrderOk_d hz hF) ?_ ?_ ?_; (focus (simp only [go_sem, seval, reduceCtorEq]; done)); (first | rfl | (focus (simp only [go_sem]; done))))
 simp only [go_sem, seval, reduceCtorEq, ho]
 refine wpN_lpS ([]) (fun L => 5 - L.length) (mkB 66 36893488147418855104) (fun L => ChI N n F lim L) (fun L => [(8, .own 1 0 L.length)]) (fun L => [(1, iv L)]) (hi := ChI.zero hok hz n F lim) (h1 := by first | (simp only [go_sem, seval, reduceCtorEq, nz, na, n1, iv_nil]; first | done | rfl) | rfl) (h2 := by first | (simp only [go_sem, seval, reduceCtorEq, nz, na, n1, iv_nil]; first | done | rfl) | rfl) (hr := fun L hi => ?_)
 unfold L1_spec_ChooseSlices
 have hcls := hi.cls
 have hL4 := hi.len
 simp (disch := omega) only [go_sem, seval, reduceCtorEq]
 (refine ti_call (l24Peak_d (L := L) hcls hF ho) ?_ ?_ ?_; (focus (simp only [go_sem, seval, reduceCtorEq]; done)); (first | rfl | (focus (simp only [go_sem]; done))))
 by_cases hp : pkS N n F L > lim
 ·have hp' : lim < pkS N n F L := hp
  simp (disch := omega) only [go_sem, seval, reduceCtorEq, hp]
  (refine ti_call (l21Closed_d hz hok) ?_ ?_ ?_; (focus (simp only [go_sem, seval, reduceCtorEq]; done)); (first | rfl | (focus (simp only [go_sem]; done))))
  simp (disch := omega) only [go_sem, seval, reduceCtorEq]
  have b0 : bst N n F L 0 = (-1, 0) := rfl
  refine wpN_lp ((closedL N).length) (mkB 66 18014397972623360) (fun k => [(9, .d (.int (bst N n F L k).1)), (10, .d (.int (bst N n F L k).2)), (28, .d (.int k))]) (fun k => []) (h1 := by first | (simp only [go_sem, seval, reduceCtorEq, nz, na, n1, b0]; first | done | rfl) | rfl) (h2 := by first | (simp only [go_sem, seval, reduceCtorEq, nz, na, n1, b0]; first | done | rfl) | rfl) (hr := fun k hk => ?_)
  unfold L0_spec_ChooseSlices
  by_cases hlt : k < (closedL N).length
  ·have d1 : (k : Int) < (closedL N).length := by omega
   have g : (closedL N)[k]? = some (closedL N)[k] := List.getElem?_eq_getElem hlt
   have gd := getD_of hlt
   have hm : (closedL N)[k] ∈ closedL N := List.getElem_mem hlt
   simp (disch := omega) only [go_sem, seval, reduceCtorEq, d1, g, Option.map_some]
   (refine ti_call (l05Find_d (xs := L) (x := (closedL N)[k]) (by omega)) ?_ ?_ ?_; (focus (simp only [go_sem, seval, reduceCtorEq]; done)); (first | rfl | (focus (simp only [go_sem]; done))))
   by_cases hn : (closedL N)[k] ∈ L
   ·have e := bst_skip (n := n) (F := F) (k := k) (by rw [gd]; exact hn)
    have c : place L (closedL N)[k] ≥ 0 := Int.not_lt.1 fun h => place_neg.1 h hn
    simp (disch := omega) only [go_sem, seval, reduceCtorEq, c]
    (refine Next.drop (mkB 66 18014397972623360) (by omega) (h1 := ?_) (h2 := ?_) <;> first | (simp only [go_sem, seval, reduceCtorEq, nz, na, n1, e]; first | done | rfl) | rfl | skip)
   ·have hll : (L ++ [(closedL N)[k]]).length = L.length + 1 := by simp
    have htl : (L ++ [(closedL N)[k]]).take (L.length + 1) = L ++ [(closedL N)[k]] := List.take_of_length_le (by omega)
    have c : ¬ place L (closedL N)[k] ≥ 0 := Int.not_le.2 (place_neg.2 hn)
    simp (disch := omega) only [go_sem, seval, reduceCtorEq, c]
    (refine gi_call (l05Ints_d (xs := L) (by omega)) ?_ ?_ ?_; (focus (simp only [go_sem, seval, reduceCtorEq]; done)); (first | rfl | (focus (simp only [go_sem]; done))))
    simp (disch := omega) only [go_sem, seval, reduceCtorEq]
    (repeat (refine And.intro (by omega) ?_))
    (refine ti_call (l24Peak_d (L := L ++ [(closedL N)[k]]) (hcls.snoc hm hn) hF ho) ?_ ?_ ?_; (focus (simp only [go_sem, seval, reduceCtorEq, hll, htl]; done)); (first | rfl | (focus (simp only [go_sem]; done))))
    by_cases b1 : (bst N n F L k).1 < 0
    ·have e := bst_new (n := n) (F := F) (k := k) (L := L) (by rw [gd]; exact hn) (.inl b1)
     rw [gd] at e
     simp (disch := omega) only [go_sem, seval, reduceCtorEq, b1]
     (refine Next.drop (mkB 66 18014397972623360) (by omega) (h1 := ?_) (h2 := ?_) <;> first | (simp only [go_sem, seval, reduceCtorEq, nz, na, n1, e]; first | done | rfl) | rfl | skip)
    ·by_cases b2 : pkS N n F (L ++ [(closedL N)[k]]) < (bst N n F L k).2
     ·have e := bst_new (n := n) (F := F) (k := k) (L := L) (by rw [gd]; exact hn) (.inr (by rw [gd]; exact b2))
      rw [gd] at e
      simp (disch := omega) only [go_sem, seval, reduceCtorEq, b1, b2]
      (refine Next.drop (mkB 66 18014397972623360) (by omega) (h1 := ?_) (h2 := ?_) <;> first | (simp only [go_sem, seval, reduceCtorEq, nz, na, n1, e]; first | done | rfl) | rfl | skip)
     ·have e := bst_old (n := n) (F := F) (k := k) (L := L) (by rw [gd]; exact hn) (by rw [gd]; exact fun h => h.elim b1 b2)
      simp (disch := omega) only [go_sem, seval, reduceCtorEq, b1, b2]
      (refine Next.drop (mkB 66 18014397972623360) (by omega) (h1 := ?_) (h2 := ?_) <;> first | (simp only [go_sem, seval, reduceCtorEq, nz, na, n1, e]; first | done | rfl) | rfl | skip)
  ·have d1 : ¬ (k : Int) < (closedL N).length := by omega
   obtain rfl : k = (closedL N).length := by omega
   simp (disch := omega) only [go_sem, seval, reduceCtorEq, d1]
   by_cases hb : (bst N n F L (closedL N).length).1 < 0
   ·have hd := hi.fail hp' (.inr hb)
    rw [hR] at hd
    subst hd
    simp (disch := omega) only [go_sem, seval, reduceCtorEq, hb]
    refine FnEnd.wk (Wk.nilD 6 _ _ rfl) ?_
    simp only [go_sem, seval, reduceCtorEq]
    (refine FnEnd.mk (nb rfl) rfl (of_decide_eq_true rfl) ?_ ?_ <;> try simp only [go_sem, seval, reduceCtorEq])
   by_cases h4 : L.length = 4
   ·have hd := hi.fail hp' (.inl h4)
    rw [hR] at hd
    subst hd
    have c4 : ((L.length : Int) == 4) = true := by simp [h4]
    simp (disch := omega) only [go_sem, seval, reduceCtorEq, hb, c4]
    refine FnEnd.wk (Wk.nilD 6 _ _ rfl) ?_
    simp only [go_sem, seval, reduceCtorEq]
    (refine FnEnd.mk (nb rfl) rfl (of_decide_eq_true rfl) ?_ ?_ <;> try simp only [go_sem, seval, reduceCtorEq])
   ·have hnx := hi.next hp' h4 hb
    have c4 : ((L.length : Int) == 4) = false := by simp; omega
    have hll : (L ++ [(bst N n F L (closedL N).length).1]).length = L.length + 1 := by simp
    simp (disch := omega) only [go_sem, seval, reduceCtorEq, hb, c4]
    (repeat (refine And.intro (by omega) ?_))
    (refine NextS.drop (mkB 66 36893488147418855104) (L ++ [(bst N n F L (closedL N).length).1]) (by omega) (hnx) (h1 := ?_) (h2 := ?_) <;> first | (simp only [go_sem, seval, reduceCtorEq, nz, na, n1, hll]; first | done | rfl) | rfl | skip)
 ·have hd := hi.done hp
  rw [hR] at hd
  subst hd
  simp (disch := omega) only [go_sem, seval, reduceCtorEq, hp]
  (refine FnEnd.wk (Wk.freeze 1 (nb rfl) rfl (cellsD_iv) rfl rfl) ?_); (simp only [go_sem, seval, reduceCtorEq, List.take_length])
  (refine FnEnd.mk (nb rfl) rfl (of_decide_eq_true rfl) ?_ ?_ <;> try simp only [go_sem, seval, reduceCtorEq])
set_option maxRecDepth 100000
theorem pkS_nil {N : Net} {n : Nat} {F : List Int} : pkS N n F [] = orderPeak N n F := by
 have : slA N [] (zeroV []) = N := slK_zero (N := N) (L := []) (V := [])
 rw [pkS, this]
theorem chs_shut {N : Net} {n : Nat} {F : List Int} {lim : Int} : ∀ (f : Nat) (L : List Int), (chs N n F lim f L).2 = false → (chs N n F lim f L).1 = []
 | 0, _, _ => rfl
 | f + 1, L, h => by
  rw [chs] at h ⊢
  split at h
  ·rename_i hp
   rw [if_pos hp]
   split at h
   ·rename_i hb; rw [if_pos hb]
   ·rename_i hb; rw [if_neg hb]; exact chs_shut f _ h
  ·cases h
theorem ClsOk.take {N : Net} {L : List Int} (h : ClsOk N L) (k : Nat) : ClsOk N (L.take k) := ⟨h.ok, h.sz, fun x hx => h.mem x (List.mem_of_mem_take hx), h.nd.sublist (List.take_sublist k L)⟩
set_option maxHeartbeats 3200000 in
theorem lawSliceLimit_d {b : List Int} (hl : b.length ≤ 9223372036854775807) (hw : ∀ x ∈ b, 0 ≤ x ∧ x ≤ 255) :
  Does Try.prog 4 [.d (bytes b)] [] (.d (.bool true)) [] := by
 by_cases h0 : (b.length : Int) > 1048576
 ·(refine spec_of (by kernel_rfl) Try.func4 k_laws_FnSliceLimit (fnOk (nb rfl) ?_); unfold C_laws_FnSliceLimit)
  unfold bytes
  (simp only [Nat.reduceSub, List.length_cons, List.length_nil, Nat.reduceAdd, ch_init1, ch_init2, ch_init3, ch_init4, ch_init5, ch_init6, ch_init7, ch_init8]; try simp only [ch_rep]); (simp only [go_sem, seval, reduceCtorEq, List.replicate])
  simp (disch := omega) only [go_sem, seval, reduceCtorEq, h0]
  (refine FnEnd.mk (nb rfl) rfl (of_decide_eq_true rfl) ?_ ?_ <;> try simp only [go_sem, seval, reduceCtorEq])
 have hb : CodeOk b := ⟨by omega, hw⟩
 obtain ⟨kk, pp, nn, hr, hring⟩ := MakeRing_d hb (m := 0) (by omega)
 obtain ⟨N, ⟨hN, _, _⟩, hnet⟩ := MakeNetwork_d hb (m := 10) (by omega) hr (most := 5) (by omega)
 obtain ⟨F, ⟨hord, hF⟩, hmo⟩ := MakeOrder_d hb (m := 100) (by omega) hN
 obtain ⟨lim, hlim, hms⟩ := MakeSize_d hb (n := 110) (by omega) (lo := 1) (hi := 20) (by omega)
 generalize N.ts.length - 1 = n at hord hF hmo
 have hz := hN.sz
 have hi := iChooseSlices_d (lim := lim) hN.ok hz hF hord
 have hs := sChooseSlices_d (lim := lim) hN.ok hz hF hord
 have hA : orderPeak N n F ≤ lim → chs N n F lim 5 [] = ([], true) := fun h => by rw [chs, if_neg (by rw [pkS_nil]; omega)]
 have hB := chs_spec (lim := lim) 5 [] rfl (ChI.zero hN.ok hz n F lim)
 have hC := chs_shut (N := N) (n := n) (F := F) (lim := lim) 5 []
 generalize chs N n F lim 5 [] = R at hi hs hA hB hC
 obtain ⟨L, ok⟩ := R
 simp only at hi hs hA hB hC
 unfold bytes at *
 (refine spec_of (by kernel_rfl) Try.func4 k_laws_FnSliceLimit (fnOk (nb rfl) ?_); unfold C_laws_FnSliceLimit)
 (simp only [Nat.reduceSub, List.length_cons, List.length_nil, Nat.reduceAdd, ch_init1, ch_init2, ch_init3, ch_init4, ch_init5, ch_init6, ch_init7, ch_init8]; try simp only [ch_rep]); (simp only [go_sem, seval, reduceCtorEq, List.replicate])
 simp (disch := omega) only [go_sem, seval, reduceCtorEq, h0]
 (refine ti_call (hring) ?_ ?_ ?_; (focus (simp only [go_sem, seval, reduceCtorEq]; done)); (first | rfl | (focus (simp only [go_sem]; done))))
 simp only [go_sem, seval, reduceCtorEq]
 (refine ti_call (hnet) ?_ ?_ ?_; (focus (simp only [go_sem, seval, reduceCtorEq]; done)); (first | rfl | (focus (simp only [go_sem]; done))))
 simp only [go_sem, seval, reduceCtorEq]
 (refine ti_call (hmo) ?_ ?_ ?_; (focus (simp only [go_sem, seval, reduceCtorEq]; done)); (first | rfl | (focus (simp only [go_sem]; done))))
 simp only [go_sem, seval, reduceCtorEq]
 (refine ti_call (iOrderPeak_d hz hF) ?_ ?_ ?_; (focus (simp only [go_sem, seval, reduceCtorEq]; done)); (first | rfl | (focus (simp only [go_sem]; done))))
 simp only [go_sem, seval, reduceCtorEq]
 (refine ti_call (hms) ?_ ?_ ?_; (focus (simp only [go_sem, seval, reduceCtorEq]; done)); (first | rfl | (focus (simp only [go_sem]; done))))
 simp only [go_sem, seval, reduceCtorEq]
 (refine ti_call (hi) ?_ ?_ ?_; (focus (simp only [go_sem, seval, reduceCtorEq]; done)); (first | rfl | (focus (simp only [go_sem]; done))))
 simp only [go_sem, seval, reduceCtorEq]
 (refine ti_call (hs) ?_ ?_ ?_; (focus (simp only [go_sem, seval, reduceCtorEq]; done)); (first | rfl | (focus (simp only [go_sem]; done))))
 simp only [go_sem, seval, reduceCtorEq]
 have hloop : ∀ i, i < L.length → ¬ pkS N n F (L.take i) ≤ lim ∧ ClsOk N (L.take i) ∧ (L.take i).length ≤ 4 := fun i hi => by
  cases hok : ok
  ·rw [hC hok] at hi; simp at hi
  ·obtain ⟨h1, _⟩ := hB hok
   have h2 := h1.len
   exact ⟨Int.not_le.2 (h1.pre i hi), h1.cls.take i, by rw [List.length_take]; omega⟩
 have hend : ok = true → ClsOk N L ∧ L.length ≤ 4 ∧ pkS N n F L ≤ min lim (orderPeak N n F) ∧ cntS N L ≥ 1 := fun hok => by
  obtain ⟨h1, h2⟩ := hB hok
  refine ⟨h1.cls, h1.len, ?_, h1.cls.cnt h1.len⟩
  by_cases hp : orderPeak N n F ≤ lim
  ·have := hA hp
   simp only [Prod.mk.injEq] at this
   rw [this.1, pkS_nil]
   omega
  ·omega
 have hLl : L.length ≤ 4 := by
  cases hok : ok
  ·rw [hC hok]; simp
  ·exact (hend hok).2.1
 clear hB
 by_cases hp : orderPeak N n F ≤ lim
 ·have hR := hA hp
  simp only [Prod.mk.injEq] at hR
  obtain ⟨hL0, rfl⟩ := hR
  have c0 : ¬ (L.length : Int) > 0 := by rw [hL0]; simp
  simp (disch := omega) only [go_sem, seval, reduceCtorEq, hp, c0]
  refine wpN_lp (L.length) (mkB 92 18880242559441726083076) (fun k => [(62, .d (.int k))]) (fun k => []) (h1 := by first | (simp only [go_sem, seval, reduceCtorEq, nz, na, n1]; first | done | rfl) | rfl) (h2 := by first | (simp only [go_sem, seval, reduceCtorEq, nz, na, n1]; first | done | rfl) | rfl) (hr := fun k hk => ?_)
  unfold L0_laws_FnSliceLimit
  by_cases hlt : k < L.length
  ·have d1 : (k : Int) < L.length := by omega
   obtain ⟨h1, h2, h3⟩ := hloop k hlt
   have htk : (L.take k).length = k := by rw [List.length_take]; omega
   simp (disch := omega) only [go_sem, seval, reduceCtorEq, d1]
   (repeat (refine And.intro (by omega) ?_))
   (refine gi_call (iSlicedPeak_d (L := L.take k) h2 h3 hF hord) ?_ ?_ ?_; (focus (simp only [go_sem, seval, reduceCtorEq, htk, Int.sub_zero]; done)); (first | rfl | (focus (simp only [go_sem]; done))))
   simp (disch := omega) only [go_sem, seval, reduceCtorEq, h1]
   (refine Next.drop (mkB 92 18880242559441726083076) (by omega) (h1 := ?_) (h2 := ?_) <;> first | (simp only [go_sem, seval, reduceCtorEq, nz, na, n1]; first | done | rfl) | rfl | skip)
  ·have d1 : ¬ (k : Int) < L.length := by omega
   obtain rfl : k = L.length := by omega
   obtain ⟨g1, g2, g3, g4⟩ := hend rfl
   simp (disch := omega) only [go_sem, seval, reduceCtorEq, d1]
   (refine ti_call (iSlicedPeak_d (L := L) g1 g2 hF hord) ?_ ?_ ?_; (focus (simp only [go_sem, seval, reduceCtorEq]; done)); (first | rfl | (focus (simp only [go_sem]; done))))
   simp (disch := omega) only [go_sem, seval, reduceCtorEq, g3]
   (refine ti_call (iSliceCount_d hz g1.lab.szL) ?_ ?_ ?_; (focus (simp only [go_sem, seval, reduceCtorEq]; done)); (first | rfl | (focus (simp only [go_sem]; done))))
   simp (disch := omega) only [go_sem, seval, reduceCtorEq, g4]
   (refine FnEnd.mk (nb rfl) rfl (of_decide_eq_true rfl) ?_ ?_ <;> try simp only [go_sem, seval, reduceCtorEq])
 cases ok with
 | true =>
  simp (disch := omega) only [go_sem, seval, reduceCtorEq, hp]
  refine wpN_lp (L.length) (mkB 92 18880242559441726083076) (fun k => [(62, .d (.int k))]) (fun k => []) (h1 := by first | (simp only [go_sem, seval, reduceCtorEq, nz, na, n1]; first | done | rfl) | rfl) (h2 := by first | (simp only [go_sem, seval, reduceCtorEq, nz, na, n1]; first | done | rfl) | rfl) (hr := fun k hk => ?_)
  unfold L0_laws_FnSliceLimit
  by_cases hlt : k < L.length
  ·have d1 : (k : Int) < L.length := by omega
   obtain ⟨h1, h2, h3⟩ := hloop k hlt
   have htk : (L.take k).length = k := by rw [List.length_take]; omega
   simp (disch := omega) only [go_sem, seval, reduceCtorEq, d1]
   (repeat (refine And.intro (by omega) ?_))
   (refine gi_call (iSlicedPeak_d (L := L.take k) h2 h3 hF hord) ?_ ?_ ?_; (focus (simp only [go_sem, seval, reduceCtorEq, htk, Int.sub_zero]; done)); (first | rfl | (focus (simp only [go_sem]; done))))
   simp (disch := omega) only [go_sem, seval, reduceCtorEq, h1]
   (refine Next.drop (mkB 92 18880242559441726083076) (by omega) (h1 := ?_) (h2 := ?_) <;> first | (simp only [go_sem, seval, reduceCtorEq, nz, na, n1]; first | done | rfl) | rfl | skip)
  ·have d1 : ¬ (k : Int) < L.length := by omega
   obtain rfl : k = L.length := by omega
   obtain ⟨g1, g2, g3, g4⟩ := hend rfl
   simp (disch := omega) only [go_sem, seval, reduceCtorEq, d1]
   (refine ti_call (iSlicedPeak_d (L := L) g1 g2 hF hord) ?_ ?_ ?_; (focus (simp only [go_sem, seval, reduceCtorEq]; done)); (first | rfl | (focus (simp only [go_sem]; done))))
   simp (disch := omega) only [go_sem, seval, reduceCtorEq, g3]
   (refine ti_call (iSliceCount_d hz g1.lab.szL) ?_ ?_ ?_; (focus (simp only [go_sem, seval, reduceCtorEq]; done)); (first | rfl | (focus (simp only [go_sem]; done))))
   simp (disch := omega) only [go_sem, seval, reduceCtorEq, g4]
   (refine FnEnd.mk (nb rfl) rfl (of_decide_eq_true rfl) ?_ ?_ <;> try simp only [go_sem, seval, reduceCtorEq])
 | false =>
  simp (disch := omega) only [go_sem, seval, reduceCtorEq, hp]
  refine wpN_lp (L.length) (mkB 92 18880242559441726083076) (fun k => [(62, .d (.int k))]) (fun k => []) (h1 := by first | (simp only [go_sem, seval, reduceCtorEq, nz, na, n1]; first | done | rfl) | rfl) (h2 := by first | (simp only [go_sem, seval, reduceCtorEq, nz, na, n1]; first | done | rfl) | rfl) (hr := fun k hk => ?_)
  unfold L0_laws_FnSliceLimit
  by_cases hlt : k < L.length
  ·have d1 : (k : Int) < L.length := by omega
   obtain ⟨h1, h2, h3⟩ := hloop k hlt
   have htk : (L.take k).length = k := by rw [List.length_take]; omega
   simp (disch := omega) only [go_sem, seval, reduceCtorEq, d1]
   (repeat (refine And.intro (by omega) ?_))
   (refine gi_call (iSlicedPeak_d (L := L.take k) h2 h3 hF hord) ?_ ?_ ?_; (focus (simp only [go_sem, seval, reduceCtorEq, htk, Int.sub_zero]; done)); (first | rfl | (focus (simp only [go_sem]; done))))
   simp (disch := omega) only [go_sem, seval, reduceCtorEq, h1]
   (refine Next.drop (mkB 92 18880242559441726083076) (by omega) (h1 := ?_) (h2 := ?_) <;> first | (simp only [go_sem, seval, reduceCtorEq, nz, na, n1]; first | done | rfl) | rfl | skip)
  ·have d1 : ¬ (k : Int) < L.length := by omega
   obtain rfl : k = L.length := by omega
   simp (disch := omega) only [go_sem, seval, reduceCtorEq, d1]
   (refine FnEnd.mk (nb rfl) rfl (of_decide_eq_true rfl) ?_ ?_ <;> try simp only [go_sem, seval, reduceCtorEq])
theorem law_SliceLimit (W : World) {v0 : Value} {b : List Int} (w0 : BytIn W v0 b) :
  Calls Try.prog 4 #[v0] W (RetV W (.bool true)) := by
 refine Does.calls (lawSliceLimit_d w0.len w0.wf) W [_] ?_
 simp only [RelL]
 exact ⟨_, _, rfl, w0.rel, rfl⟩
end Go.Proofs.Ytndmbmmnbocmhaa
