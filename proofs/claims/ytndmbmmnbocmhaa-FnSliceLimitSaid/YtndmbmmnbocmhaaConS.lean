/-
 Contracts: labels fixed. No condition.
-/
import Derived.Test.YtndmbmmnbocmhaaMgSliceLimitA
import Derived.Test.YtndmbmmnbocmhaaConM
import Derived.Test.YtndmbmmnbocmhaaLiftH
import Derived.Test.YtndmbmmnbocmhaaCoD
set_option linter.unusedSimpArgs false
set_option linter.unusedVariables false
namespace Go.Proofs.Ytndmbmmnbocmhaa
open Go.RowKit Go.Lift Plain
set_option maxRecDepth 100000
theorem axOk_mk {ls ds : List Int} (h1 : ls.length ≤ 12) (h2 : ls.length = ds.length) (h3 : ls.Nodup) (h4 : ∀ l ∈ ls, 0 ≤ l ∧ l ≤ 99) (h5 : ∀ d ∈ ds, 1 ≤ d ∧ d ≤ 8) : axOk ls ds := by
 refine ⟨h1, h2, fun k hk => ?_⟩
 have a := h4 _ (mem_of_get ls k hk)
 have b := h5 _ (mem_of_get ds k (by omega))
 have c := fresh_of h3 hk
 rw [← getD_of hk] at c
 exact ⟨a.1, a.2, b.1, b.2, c⟩
theorem axOk_lab {ls ds : List Int} (h : axOk ls ds) : ∀ l ∈ ls, 0 ≤ l ∧ l ≤ 99 := fun l hl => by
 obtain ⟨k, hk, rfl⟩ := List.getElem_of_mem hl
 have := h.2.2 k hk
 unfold axAt at this
 rw [getD_of hk] at this
 omega
theorem sliR_ok {r : Rg} {t : Ten} {x : Int} {u wd n j : Nat} (hw : width r = wd) (hr : ringOk r = true) (hf : fits r t.data) (h : SliOk t x u wd n j) :
  tensorOk r (sliR wd t x u j).labels (sliR wd t x u j).dims (sliR wd t x u j).data = true := by
 have hpN := h.pN
 have hn := h.nN
 have hn1 := h.n1
 have hax : axOk (wo t.labels x) (sliD t j) := axOk_mk (Nat.le_trans (wo_len _ _) h.ax.1) h.dlen.symm (List.Nodup.sublist List.filter_sublist h.nodup) (fun l hl => axOk_lab h.ax l (wo_mem.1 hl).1) h.dbd
 have hts : tsize (wo t.labels x) (sliD t j) = prodI (sliD t j) := tsize_good hax.1 hax.2.1 hax.2.2 (by omega)
 have e : tensorOk r (sliR wd t x u j).labels (sliR wd t x u j).dims (sliR wd t x u j).data = decide (tsize (wo t.labels x) (sliD t j) ≠ -1) := by
  refine tenOk_of hr ?_ (fits_of fun y hy => fits_mem hf y (gath_mem y hy))
  show ((gath t.data wd (offJ u t.dims j) (sliN t j)).length : Int) = prodI (sliD t j) * _
  rw [gath_len fun q hq => h.cut hq, hpN.1, hw]
  simp
 rw [e, hts]
 exact decide_eq_true (by omega)
theorem sliR_dimAt {t : Ten} {x : Int} {u wd n j : Nat} (h : SliOk t x u wd n j) {l : Int} (hl : l ∈ wo t.labels x) : dimAt (sliR wd t x u j) l = dimAt t l := by
 obtain ⟨k, hk, h1, h2, _⟩ := place_mem hl
 show (sliD t j).getD (place (wo t.labels x) l).toNat 0 = _
 rw [h1, ← h.dims]
 simp [hk, h2]
def fixTo (r : Rg) (t : Ten) (L V : List Int) : Nat → Ten
 | 0 => t
 | k + 1 => if L.getD k 0 ∈ (fixTo r t L V k).labels then sliT r (fixTo r t L V k) (L.getD k 0) (V.getD k 0) else fixTo r t L V k
def fixGood (r : Rg) (t : Ten) (L V : List Int) (n : Nat) : Prop := ∀ j, j < n → L.getD j 0 ∈ (fixTo r t L V j).labels → sliB r (fixTo r t L V j) (L.getD j 0) (V.getD j 0) = true
instance (r : Rg) (t : Ten) (L V : List Int) (n : Nat) : Decidable (fixGood r t L V n) := inferInstanceAs (Decidable (∀ j, j < n → _))
def fixB (r : Rg) (t : Ten) (L V : List Int) : Bool := tensorOk r t.labels t.dims t.data && decide (L.length = V.length) && decide (fixGood r t L V L.length)
def fixT (r : Rg) (t : Ten) (L V : List Int) : Ten := if fixB r t L V = true then fixTo r t L V L.length else ⟨[], [], []⟩
structure FixSt (r : Rg) (t : Ten) (L : List Int) (k : Nat) (s : Ten) : Prop where
 ok : tensorOk r s.labels s.dims s.data = true
 sz : TSz 1048576 s
 lab : ∀ l, l ∈ s.labels ↔ l ∈ t.labels ∧ l ∉ L.take k
 dim : ∀ l ∈ s.labels, dimAt s l = dimAt t l
theorem fixSt {r : Rg} {t : Ten} {L V : List Int} (h : tensorOk r t.labels t.dims t.data = true) (hs : TSz 1048576 t) : ∀ k, k ≤ L.length → fixGood r t L V k → FixSt r t L k (fixTo r t L V k)
 | 0, _, _ => ⟨h, hs, fun l => by simp [fixTo], fun l _ => rfl⟩
 | k + 1, hk, hg => by
  have ih := fixSt (L := L) h hs k (by omega) fun j hj => hg j (by omega)
  have hlt : k < L.length := by omega
  have hgk := hg k (by omega)
  have htk : ∀ l, l ∈ L.take (k + 1) ↔ l ∈ L.take k ∨ l = L.getD k 0 := fun l => mem_take_succ L k l hlt
  rw [fixTo]
  by_cases hm : L.getD k 0 ∈ (fixTo r t L V k).labels
  ·rw [if_pos hm]
   obtain ⟨u, wd, n, j, e1, e2, e3, hS, e4⟩ := sliB_ok (hgk hm)
   rw [e4]
   obtain ⟨wd', n', f1, f2, f3, f4, f5, f6, f7, f8, f9, f10⟩ := ten_facts ih.ok
   have hsz := sliT_sz (r := r) (x := L.getD k 0) (v := V.getD k 0) ih.sz
   rw [e4] at hsz
   refine ⟨sliR_ok e2 f9 f8 hS, hsz, fun l => ?_, fun l hl => ?_⟩
   ·show l ∈ wo _ _ ↔ _
    rw [wo_mem, ih.lab, htk]
    constructor
    ·rintro ⟨⟨a, b⟩, c⟩
     exact ⟨a, fun e => e.elim b c⟩
    ·rintro ⟨a, b⟩
     exact ⟨⟨a, fun e => b (.inl e)⟩, fun e => b (.inr e)⟩
   ·rw [sliR_dimAt hS hl]
    exact ih.dim l (wo_mem.1 hl).1
  ·rw [if_neg hm]
   refine ⟨ih.ok, ih.sz, fun l => ?_, ih.dim⟩
   rw [ih.lab, htk]
   rw [ih.lab] at hm
   constructor
   ·rintro ⟨a, b⟩
    exact ⟨a, fun e => e.elim b fun e => hm (e ▸ ⟨a, b⟩)⟩
   ·rintro ⟨a, b⟩
    exact ⟨a, fun e => b (.inl e)⟩
theorem l09Fix_d {kk pp nn : Int} {t : Ten} {L V : List Int} (h : TSz 1048576 t) (hL : Sz 1048576 L) (hV : Sz 1048576 V) (ho : fixB ⟨kk, pp, nn⟩ t L V = true) :
  Does Try.prog 76 [ringA kk pp nn, tenA t, .d (ints L), .d (ints V)] [] (ownT 0 (fixT ⟨kk, pp, nn⟩ t L V)) (stoF (fixT ⟨kk, pp, nn⟩ t L V)) := by
 have hll := hL.len
 have ho' := ho
 simp only [fixB, Bool.and_eq_true, decide_eq_true_eq] at ho'
 obtain ⟨⟨h1, hlv⟩, hgood⟩ := ho'
 have e2 : fixT ⟨kk, pp, nn⟩ t L V = fixTo ⟨kk, pp, nn⟩ t L V L.length := by rw [fixT, if_pos ho]
 (refine spec_of (by kernel_rfl) Try.func76 k_spec_l09Fix (fnOk (nb rfl) ?_); unfold C_spec_l09Fix)
 (simp only [Nat.reduceSub, List.length_cons, List.length_nil, Nat.reduceAdd, ch_init1, ch_init2, ch_init3, ch_init4, ch_init5, ch_init6, ch_init7, ch_init8]; try simp only [ch_rep]); (simp only [go_sem, seval, reduceCtorEq, List.replicate])
 (refine ti_call (l05Copy_f (t := t) h) ?_ ?_ ?_; (focus (simp only [go_sem, seval, reduceCtorEq]; done)); (first | rfl | (focus (simp only [go_sem]; done))))
 simp only [go_sem, seval, reduceCtorEq]
 refine wpN_lpS (0) (fun k => L.length - k) (mkB 36 34359618560) (fun k => k ≤ L.length) (fun k => [(16, .d (.int (k : Int)))]) (fun k => [(3, iv (fixTo ⟨kk, pp, nn⟩ t L V k).labels), (4, iv (fixTo ⟨kk, pp, nn⟩ t L V k).dims), (5, iv (fixTo ⟨kk, pp, nn⟩ t L V k).data), (6, [.own 3 0 (fixTo ⟨kk, pp, nn⟩ t L V k).labels.length, .own 4 0 (fixTo ⟨kk, pp, nn⟩ t L V k).dims.length, .own 5 0 (fixTo ⟨kk, pp, nn⟩ t L V k).data.length])]) (hi := Nat.zero_le _) (h1 := by first | (simp only [go_sem, seval, reduceCtorEq, nz, na, n1, fixTo]; first | done | rfl) | rfl) (h2 := by first | (simp only [go_sem, seval, reduceCtorEq, nz, na, n1, fixTo]; first | done | rfl) | rfl) (hr := fun k hi => ?_)
 unfold L0_spec_l09Fix
 have hg : fixGood ⟨kk, pp, nn⟩ t L V k := fun j hj => hgood j (by omega)
 have hF := fixSt h1 h k hi hg
 have hfx : fixTo ⟨kk, pp, nn⟩ t L V (k + 1) = if L.getD k 0 ∈ (fixTo ⟨kk, pp, nn⟩ t L V k).labels then sliT ⟨kk, pp, nn⟩ (fixTo ⟨kk, pp, nn⟩ t L V k) (L.getD k 0) (V.getD k 0) else fixTo ⟨kk, pp, nn⟩ t L V k := rfl
 by_cases hlt : k < L.length
 ·have d1 : (k : Int) < L.length := by omega
  have d2 : (k : Int) < V.length := by omega
  have g : L[k]? = some L[k] := List.getElem?_eq_getElem hlt
  have gv : V[k]? = some (V.getD k 0) := by rw [getD_of (by omega)]; exact List.getElem?_eq_getElem (by omega)
  have hmeas : L.length - (k + 1) < L.length - k := by omega
  have hgk := hgood k hlt
  rw [getD_of hlt] at hfx hgk
  generalize hse : fixTo ⟨kk, pp, nn⟩ t L V k = s at *
  simp (disch := omega) only [go_sem, seval, reduceCtorEq, d1, g]
  (refine ti_call (l05Find_d (xs := s.labels) (x := L[k]) hF.sz.l.up.len) ?_ ?_ ?_; (focus (simp only [go_sem, seval, reduceCtorEq]; done)); (first | rfl | (focus (simp only [go_sem]; done))))
  by_cases hm : L[k] ∈ s.labels
  ·have c2 : place s.labels L[k] ≥ 0 := by
    have h0 : ¬ place s.labels L[k] < 0 := fun e => place_neg.1 e hm
    omega
   rw [if_pos hm] at hfx
   obtain ⟨u, wd, n, j, e1, e3, e4, hS, e5⟩ := sliB_ok (hgk hm)
   rw [e5] at hfx
   simp (disch := omega) only [go_sem, seval, reduceCtorEq, c2, d2, gv, e1]
   (refine ti_call (l09Slice_d (t := s) (x := L[k]) e3 hS hF.sz) ?_ ?_ ?_; (focus (simp only [go_sem, seval, reduceCtorEq]; done)); (first | rfl | (focus (simp only [go_sem]; done))))
   simp (disch := omega) only [go_sem, seval, reduceCtorEq]
   (refine NextS.ren (mkB 36 34359618560) [7, 8, 9, 6] 3 (k + 1) (hmeas) (by omega) (nb rfl) (nb rfl) (of_decide_eq_true rfl) (of_decide_eq_true rfl) ?_ ?_ <;> first | (simp only [go_sem, seval, reduceCtorEq, nz, na, n1, hfx]; first | done | rfl) | rfl | skip)
  ·have c2 : ¬ place s.labels L[k] ≥ 0 := by have := place_neg.2 hm; omega
   rw [if_neg hm] at hfx
   simp (disch := omega) only [go_sem, seval, reduceCtorEq, c2]
   (refine NextS.drop (mkB 36 34359618560) (k + 1) (hmeas) (by omega) (h1 := ?_) (h2 := ?_) <;> first | (simp only [go_sem, seval, reduceCtorEq, nz, na, n1, hfx]; first | done | rfl) | rfl | skip)
 ·have d1 : ¬ (k : Int) < L.length := by omega
  obtain rfl : k = L.length := by omega
  simp (disch := omega) only [go_sem, seval, reduceCtorEq, d1, e2]
  refine FnEnd.wk Wk.nogA ?_
  (refine FnEnd.mk (nb rfl) rfl (of_decide_eq_true rfl) ?_ ?_ <;> try simp only [go_sem, seval, reduceCtorEq])
end Go.Proofs.Ytndmbmmnbocmhaa
