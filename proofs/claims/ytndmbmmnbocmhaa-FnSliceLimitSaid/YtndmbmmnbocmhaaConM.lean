/-
 Contracts: slices of tensors. No condition.
-/
import Derived.Test.YtndmbmmnbocmhaaCoD
import Derived.Test.YtndmbmmnbocmhaaPlA
set_option linter.unusedSimpArgs false
set_option linter.unusedVariables false
namespace Go.Proofs.Ytndmbmmnbocmhaa
open Go.RowKit Go.Lift Plain
set_option maxRecDepth 100000
def wo (ls : List Int) (x : Int) : List Int := ls.filter (· != x)
theorem wo_len (ls : List Int) (x : Int) : (wo ls x).length ≤ ls.length := List.length_filter_le _ _
theorem wo_mem {ls : List Int} {x y : Int} : y ∈ wo ls x ↔ y ∈ ls ∧ y ≠ x := by simp [wo]
theorem wo_erase : ∀ {ls : List Int} {j : Nat} (hj : j < ls.length), ls.Nodup → wo ls ls[j] = ls.eraseIdx j
 | [], j, h, _ => by simp at h
 | l :: ls, 0, _, hn => by
  simp only [List.nodup_cons] at hn
  simp only [wo, List.getElem_cons_zero, List.filter_cons, bne_self_eq_false, Bool.false_eq_true, if_false, List.eraseIdx_cons_zero]
  refine List.filter_eq_self.2 fun y hy => ?_
  simp only [bne_iff_ne, ne_eq]
  exact fun e => hn.1 (e ▸ hy)
 | l :: ls, j + 1, hj, hn => by
  simp only [List.nodup_cons] at hn
  have hj' : j < ls.length := by simpa using hj
  have ih := wo_erase hj' hn.2
  have hne : l ≠ ls[j] := fun e => hn.1 (e ▸ List.getElem_mem hj')
  simp only [wo, List.getElem_cons_succ, List.filter_cons, List.eraseIdx_cons_succ]
  rw [if_pos (by simpa using hne), ← ih]; rfl
theorem eraseIdx_map {α β : Type} (f : α → β) : ∀ (l : List α) (j : Nat), (l.map f).eraseIdx j = (l.eraseIdx j).map f
 | [], _ => by simp
 | x :: l, 0 => rfl
 | x :: l, j + 1 => by simp [eraseIdx_map f l j]
structure SliOk (t : Ten) (x : Int) (v wd n j : Nat) : Prop where
 ax : axOk t.labels t.dims
 pn : prodI t.dims = n
 n1 : 1 ≤ n ∧ n ≤ 4096
 w1 : 1 ≤ wd ∧ wd ≤ 6
 dl : t.data.length = n * wd
 jl : j < t.labels.length
 jx : t.labels[j]? = some x
 vd : (v : Int) < t.dims.getD j 0
def sliD (t : Ten) (j : Nat) : List Int := t.dims.eraseIdx j
def sliN (t : Ten) (j : Nat) : Nat := prodN (sliD t j)
def sliR (wd : Nat) (t : Ten) (x : Int) (v j : Nat) : Ten := ⟨wo t.labels x, sliD t j, gath t.data wd (offJ v t.dims j) (sliN t j)⟩
namespace SliOk
variable {t : Ten} {x : Int} {v wd n j : Nat}
theorem lx (h : SliOk t x v wd n j) : t.labels[j]'h.jl = x := by have := h.jx; rw [List.getElem?_eq_getElem h.jl] at this; simpa using this
theorem nodup (h : SliOk t x v wd n j) : t.labels.Nodup := axOk_nodup h.ax
theorem W (h : SliOk t x v wd n j) : wo t.labels x = t.labels.eraseIdx j := by have := wo_erase h.jl h.nodup; rwa [h.lx] at this
theorem place (h : SliOk t x v wd n j) : Plain.place t.labels x = j := by have := place_at h.jl (fresh_of h.nodup h.jl); rwa [h.lx] at this
theorem jd (h : SliOk t x v wd n j) : j < t.dims.length := by have := h.jl; have := h.ax.len; omega
theorem len (h : SliOk t x v wd n j) : (wo t.labels x).length = t.labels.length - 1 := by rw [h.W, List.length_eraseIdx_of_lt h.jl]
theorem dlen (h : SliOk t x v wd n j) : (sliD t j).length = (wo t.labels x).length := by
 rw [h.len, sliD, List.length_eraseIdx_of_lt h.jd, h.ax.len]
theorem dims (h : SliOk t x v wd n j) : (wo t.labels x).map (dimAt t) = sliD t j := by
 rw [h.W, ← eraseIdx_map, dims_map h.ax]; rfl
theorem strides (h : SliOk t x v wd n j) : (wo t.labels x).map (strideL t.labels t.dims) = (stridesR t.dims).eraseIdx j := by
 rw [h.W, ← eraseIdx_map, strideL_map _ _ h.ax.len h.nodup]
theorem stride (h : SliOk t x v wd n j) : strideL t.labels t.dims x = (stridesR t.dims).getD j 0 := by
 rw [← strideL_map _ _ h.ax.len h.nodup, getD_of (by simpa using h.jl), List.getElem_map, h.lx]
theorem d1 (h : SliOk t x v wd n j) : ∀ d ∈ t.dims, 1 ≤ d := fun d hd => (h.ax.dim d hd).1
theorem dbd (h : SliOk t x v wd n j) : ∀ d ∈ sliD t j, 1 ≤ d ∧ d ≤ 8 := fun d hd => h.ax.dim d (List.mem_of_mem_eraseIdx hd)
theorem pN (h : SliOk t x v wd n j) : prodI (sliD t j) = sliN t j ∧ 1 ≤ sliN t j := prodN_eq (fun d hd => (h.dbd d hd).1)
theorem nN (h : SliOk t x v wd n j) : sliN t j ≤ n := by
 have h1 := prodI_sub_le (f := dimAt t) (L := wo t.labels x) (ls := t.labels) (List.Nodup.sublist List.filter_sublist h.nodup) (fun y hy => (wo_mem.1 hy).1) (fun y hy => (dimAt_bd h.ax hy).1)
 rw [dims_map h.ax, h.dims, h.pn] at h1
 have := h.pN
 omega
theorem off (h : SliOk t x v wd n j) {i : Nat} (hi : i < sliN t j) : (v : Int) * strideL t.labels t.dims x + dotI ((wo t.labels x).map (strideL t.labels t.dims)) (digits (sliD t j) i) = offJ v t.dims j i := by
 rw [h.stride, h.strides]
 exact offJ_dot v t.dims j i h.d1 h.jd hi
theorem offn (h : SliOk t x v wd n j) {i : Nat} (hi : i < sliN t j) : offJ v t.dims j i < n := by
 have h1 := offJ_filter v t.dims j h.d1 h.jd h.vd
 have h2 : offJ v t.dims j i ∈ (List.range (prodN (t.dims.eraseIdx j))).map (offJ v t.dims j) := List.mem_map.2 ⟨i, List.mem_range.2 hi, rfl⟩
 rw [← h1, List.mem_filter] at h2
 have h3 := (prodN_eq h.d1).1
 have h4 : offJ v t.dims j i < prodN t.dims := by simpa using h2.1
 have := h.pn
 omega
theorem cut (h : SliOk t x v wd n j) {i : Nat} (hi : i < sliN t j) : offJ v t.dims j i * wd + wd ≤ t.data.length := by
 rw [h.dl]; exact mul_step (h.offn hi)
theorem sbd (h : SliOk t x v wd n j) (y : Int) : 0 ≤ strideL t.labels t.dims y ∧ strideL t.labels t.dims y ≤ 4096 := by
 have h1 := strideL_bd t.labels t.dims y h.d1
 have := h.pn
 have := h.n1
 omega
theorem dotb (h : SliOk t x v wd n j) (i k : Nat) : 0 ≤ ((wo t.labels x).map (strideL t.labels t.dims)).getD k 0 * (digits (sliD t j) i).getD k 0 ∧ ((wo t.labels x).map (strideL t.labels t.dims)).getD k 0 * (digits (sliD t j) i).getD k 0 ≤ 16777216 := by
 by_cases hk : k < (wo t.labels x).length
 ·have hk2 : k < (sliD t j).length := by rw [h.dlen]; exact hk
  have h1 := digits_bd (sliD t j) i (fun d hd => (h.dbd d hd).1) k hk2
  have h2 := h.dbd ((sliD t j).getD k 0) (by rw [getD_of hk2]; exact List.getElem_mem _)
  have h3 := h.sbd (wo t.labels x)[k]
  rw [getD_of (show k < ((wo t.labels x).map (strideL t.labels t.dims)).length by simpa using hk), List.getElem_map]
  generalize (digits (sliD t j) i).getD k 0 = y at *
  generalize strideL t.labels t.dims (wo t.labels x)[k] = s at *
  refine ⟨Int.mul_nonneg h3.1 h1.1, ?_⟩
  have : s * y ≤ s * 8 := Int.mul_le_mul_of_nonneg_left (by omega) h3.1
  omega
 ·have : ((wo t.labels x).map (strideL t.labels t.dims)).getD k 0 = 0 := by simp [List.getD_eq_getElem?_getD, List.getElem?_eq_none (Nat.le_of_not_lt hk)]
  rw [this]; simp
end SliOk
def sliB (r : Rg) (t : Ten) (x v : Int) : Bool := tensorOk r t.labels t.dims t.data && decide (x ∈ t.labels ∧ 0 ≤ v ∧ v < dimAt t x)
def sliT (r : Rg) (t : Ten) (x v : Int) : Ten := if sliB r t x v = true then sliR (width r).toNat t x v.toNat (place t.labels x).toNat else ⟨[], [], []⟩
theorem sliB_ok {r : Rg} {t : Ten} {x v : Int} (h : sliB r t x v = true) : ∃ u wd n j : Nat, v = u ∧ width r = wd ∧ prodI t.dims = n ∧ SliOk t x u wd n j ∧ sliT r t x v = sliR wd t x u j := by
 have ho := h
 simp only [sliB, Bool.and_eq_true, decide_eq_true_eq] at h
 obtain ⟨wd, n, e1, e2, e3, e4, e5, e6, e7, e8, e9, e10⟩ := ten_facts h.1
 obtain ⟨j, g1, g2, g3, g4⟩ := dimAt_get e10.len h.2.1
 obtain ⟨j', g5, g6, g7, _⟩ := place_mem h.2.1
 obtain rfl : j = j' := by omega
 refine ⟨v.toNat, wd, n, j, by omega, e1, e2, ⟨e10, e2, ⟨e5, e6⟩, ⟨e3, e4⟩, e7, g1, by rw [List.getElem?_eq_getElem g1, g7], ?_⟩, ?_⟩
 ·have : t.dims.getD j 0 = dimAt t x := by rw [List.getD_eq_getElem?_getD, g4]; rfl
  omega
 ·rw [sliT, if_pos ho, e1, g3]; rfl
theorem sliT_sz {r : Rg} {t : Ten} {x v : Int} (ht : TSz 1048576 t) : TSz 1048576 (sliT r t x v) := by
 by_cases ho : sliB r t x v = true
 ·obtain ⟨u, wd, n, j, rfl, e1, e2, h, e3⟩ := sliB_ok ho
  rw [e3]
  refine ⟨⟨Nat.le_trans (wo_len _ _) ht.l.len, fun y hy => ht.l.wf y (wo_mem.1 hy).1⟩, ⟨?_, fun d hd => ?_⟩, ⟨?_, fun y hy => ht.x.wf y (gath_mem y hy)⟩⟩
  ·show (sliD t j).length ≤ _
   rw [h.dlen]
   exact Nat.le_trans (wo_len _ _) ht.l.len
  ·have := h.dbd d hd
   exact ⟨by omega, by omega⟩
  ·show (gath t.data wd (offJ u t.dims j) (sliN t j)).length ≤ _
   rw [gath_len fun q hq => h.cut hq]
   have h1 := h.nN
   have h3 := h.n1
   have h4 := h.w1
   have : sliN t j * wd ≤ 4096 * 6 := Nat.mul_le_mul (by omega) h4.2
   omega
 ·rw [sliT, if_neg ho]
  exact ⟨⟨by simp, by simp⟩, ⟨by simp, by simp⟩, ⟨by simp, by simp⟩⟩
theorem digits_zero : ∀ ds : List Int, digits ds 0 = List.replicate ds.length 0
 | [] => rfl
 | d :: ds => by rw [digits_cons, digits_zero ds]; simp [List.replicate_succ]
theorem dv_sing (x : Int) : dv [x] = [D.int x] := nr rfl
theorem iv_sing (x : Int) : iv [x] = [AV.d (.int x)] := nr rfl
theorem withoutInt_w {xs : List Int} {x : Int} (h : xs.length ≤ 1099511627776) : Does Try.prog 78 [.d (ints xs), .d (.int x)] [] (.own 0 0 (wo xs x).length) [some ⟨1, true, iv (wo xs x)⟩] := withoutInt_d h
theorem iSliceTensor_d {kk pp nn : Int} {t : Ten} {x v : Int} (a : I64 kk) (b : I64 pp) (c : I64 nn) (h : TSz 1048576 t) (hv : I64 v) :
  Does Try.prog 81 [ringA kk pp nn, tenA t, .d (.int x), .d (.int v)] [] (.tup [ownT 0 (sliT ⟨kk, pp, nn⟩ t x v), .d (.bool (sliB ⟨kk, pp, nn⟩ t x v))]) (stoF (sliT ⟨kk, pp, nn⟩ t x v)) := by
 have hxl := h.x.len
 (refine spec_of (by kernel_rfl) Try.func81 k_impl_SliceTensor (fnOk (nb rfl) ?_); unfold C_impl_SliceTensor)
 (simp only [Nat.reduceSub, List.length_cons, List.length_nil, Nat.reduceAdd, ch_init1, ch_init2, ch_init3, ch_init4, ch_init5, ch_init6, ch_init7, ch_init8]; try simp only [ch_rep]); (simp only [go_sem, seval, reduceCtorEq, List.replicate])
 (refine ti_call (iTensorOk_d (t := t) a b c h.up) ?_ ?_ ?_; (focus (simp only [go_sem, seval, reduceCtorEq]; done)); (first | rfl | (focus (simp only [go_sem]; done))))
 cases h1 : tensorOk ⟨kk, pp, nn⟩ t.labels t.dims t.data
 ·have e1 : sliB ⟨kk, pp, nn⟩ t x v = false := by simp [sliB, h1]
  have e2 : sliT ⟨kk, pp, nn⟩ t x v = ⟨[], [], []⟩ := by simp [sliT, e1]
  simp only [go_sem, seval, reduceCtorEq, h1, e1, e2]
  refine FnEnd.wk (Wk.trans (Wk.nilS 2 0 1 _ _ _ rfl rfl) (Wk.trans (Wk.nilS 2 1 1 _ _ _ rfl rfl) (Wk.trans (Wk.nilS 2 2 1 _ _ _ rfl rfl) Wk.nogA))) ?_
  (refine FnEnd.mk (nb rfl) rfl (of_decide_eq_true rfl) ?_ ?_ <;> try simp only [go_sem, seval, reduceCtorEq])
 simp only [go_sem, seval, reduceCtorEq, h1]
 (refine ti_call (axisOf_d (t := t) (x := x) h.l.up.len) ?_ ?_ ?_; (focus (simp only [go_sem, seval, reduceCtorEq]; done)); (first | rfl | (focus (simp only [go_sem]; done))))
 have hax := (tensorOk_facts h1).2.1
 by_cases hm : x ∈ t.labels
 rotate_left
 ·have e1 : sliB ⟨kk, pp, nn⟩ t x v = false := by simp [sliB, hm]
  have e2 : sliT ⟨kk, pp, nn⟩ t x v = ⟨[], [], []⟩ := by simp [sliT, e1]
  have e3 := place_no hm
  simp only [go_sem, seval, reduceCtorEq, e3, e1, e2]
  refine FnEnd.wk (Wk.trans (Wk.nilS 2 0 1 _ _ _ rfl rfl) (Wk.trans (Wk.nilS 2 1 1 _ _ _ rfl rfl) (Wk.trans (Wk.nilS 2 2 1 _ _ _ rfl rfl) Wk.nogA))) ?_
  (refine FnEnd.mk (nb rfl) rfl (of_decide_eq_true rfl) ?_ ?_ <;> try simp only [go_sem, seval, reduceCtorEq])
 obtain ⟨j, g1, g2, g3, g4⟩ := dimAt_get hax.len hm
 have c1 : ¬ (j : Int) < 0 := by omega
 by_cases hv0 : v < 0
 ·have e1 : sliB ⟨kk, pp, nn⟩ t x v = false := by simp [sliB]; omega
  have e2 : sliT ⟨kk, pp, nn⟩ t x v = ⟨[], [], []⟩ := by simp [sliT, e1]
  simp only [go_sem, seval, reduceCtorEq, g3, c1, hv0, e1, e2]
  refine FnEnd.wk (Wk.trans (Wk.nilS 2 0 1 _ _ _ rfl rfl) (Wk.trans (Wk.nilS 2 1 1 _ _ _ rfl rfl) (Wk.trans (Wk.nilS 2 2 1 _ _ _ rfl rfl) Wk.nogA))) ?_
  (refine FnEnd.mk (nb rfl) rfl (of_decide_eq_true rfl) ?_ ?_ <;> try simp only [go_sem, seval, reduceCtorEq])
 have c2 : (j : Int) < t.dims.length := by omega
 by_cases hvd : v ≥ dimAt t x
 ·have e1 : sliB ⟨kk, pp, nn⟩ t x v = false := by simp [sliB]; omega
  have e2 : sliT ⟨kk, pp, nn⟩ t x v = ⟨[], [], []⟩ := by simp [sliT, e1]
  simp only [go_sem, seval, reduceCtorEq, g3, c1, c2, g4, hv0, hvd, e1, e2]
  refine FnEnd.wk (Wk.trans (Wk.nilS 2 0 1 _ _ _ rfl rfl) (Wk.trans (Wk.nilS 2 1 1 _ _ _ rfl rfl) (Wk.trans (Wk.nilS 2 2 1 _ _ _ rfl rfl) Wk.nogA))) ?_
  (refine FnEnd.mk (nb rfl) rfl (of_decide_eq_true rfl) ?_ ?_ <;> try simp only [go_sem, seval, reduceCtorEq])
 have ho : sliB ⟨kk, pp, nn⟩ t x v = true := by simp only [sliB, h1, Bool.true_and, decide_eq_true_eq]; exact ⟨hm, by omega, by omega⟩
 obtain ⟨u, wd, n, j', rfl, e1, e2, hS, e3⟩ := sliB_ok ho
 have hjj := hS.place
 obtain rfl : j = j' := by omega
 have hwl := wo_len t.labels x
 have hl12 := hax.1
 simp only [go_sem, seval, reduceCtorEq, g3, c1, c2, g4, hv0, hvd]
 (refine ti_call (withoutInt_w (xs := t.labels) (x := x) h.l.up.len) ?_ ?_ ?_; (focus (simp only [go_sem, seval, reduceCtorEq]; done)); (first | rfl | (focus (simp only [go_sem]; done))))
 simp only [go_sem, seval, reduceCtorEq]
 have hW : ∀ k, k < (wo t.labels x).length → ∃ i : Nat, i < t.dims.length ∧ place t.labels ((wo t.labels x).getD k 0) = i ∧ t.dims[i]? = some (dimAt t ((wo t.labels x).getD k 0)) := fun k hk => by
  have hm := (wo_mem.1 (List.getElem_mem hk)).1
  obtain ⟨i, h1, h2, h3, h4⟩ := dimAt_get hax.len hm
  rw [getD_of hk]
  exact ⟨i, h2, h3, h4⟩
 have hDl := hS.dlen
 have hDs : ∀ k, k < (wo t.labels x).length → (sliD t j).take (k + 1) = (sliD t j).take k ++ [dimAt t ((wo t.labels x).getD k 0)] := fun k hk => by
  rw [take_ss (by omega), getD_of hk]
  have : (sliD t j)[k]'(by omega) = dimAt t (wo t.labels x)[k] := by
   have h1 := hS.dims
   have h2 : ((wo t.labels x).map (dimAt t))[k]'(by simpa using hk) = dimAt t (wo t.labels x)[k] := by simp
   rw [← h2]
   simp only [h1]
  rw [this]
 generalize hWg : wo t.labels x = W at *
 (refine wpN_lwk (Wk.nilS 4 1 1 _ _ _ rfl rfl) ?_; simp only [go_sem, seval, reduceCtorEq])
 refine wpN_lp (W.length) (mkB 100 73785850394931372032) (fun k => [(49, .d (.int k))]) (fun k => [(4, [.own 3 0 W.length, .own 5 0 k, .nil]), (5, iv ((sliD t j).take k))]) (h1 := by first | (simp only [go_sem, seval, reduceCtorEq, nz, na, n1, List.take_zero, iv_nil]; first | done | rfl) | rfl) (h2 := by first | (simp only [go_sem, seval, reduceCtorEq, nz, na, n1, List.take_zero, iv_nil]; first | done | rfl) | rfl) (hr := fun k hk => ?_)
 unfold L1_impl_SliceTensor
 by_cases hlt : k < W.length
 ·have d1 : (k : Int) < W.length := by omega
  have g : W[k]? = some (W.getD k 0) := by rw [getD_of hlt]; exact List.getElem?_eq_getElem hlt
  obtain ⟨i, hi1, hi2, hi3⟩ := hW k hlt
  have d2 : (i : Int) < t.dims.length := by omega
  have hD := hDs k hlt
  have l1 : ((sliD t j).take k).length = k := by simp; omega
  simp (disch := omega) only [go_sem, seval, reduceCtorEq, d1, g]
  (refine gi_call (axisOf_d (t := t) (x := W.getD k 0) h.l.up.len) ?_ ?_ ?_; (focus (simp only [go_sem, seval, reduceCtorEq]; done)); (first | rfl | (focus (simp only [go_sem]; done))))
  simp (disch := omega) only [go_sem, seval, reduceCtorEq, hi2, d2, hi3, l1]
  refine ⟨by omega, ?_⟩
  (refine Next.drop (mkB 100 73785850394931372032) (by omega) (h1 := ?_) (h2 := ?_) <;> first | (simp only [go_sem, seval, reduceCtorEq, nz, na, n1, hD]; first | done | rfl) | rfl | skip)
 ·have d1 : ¬ (k : Int) < W.length := by omega
  have hkl : k = W.length := by omega
  subst hkl
  have htD : (sliD t j).take W.length = sliD t j := List.take_of_length_le (by omega)
  have hn1 := hS.n1
  have hpn := hS.pn
  have hwb := hS.w1
  have hdl3 := hS.dl
  have hsx := hS.sbd x
  have hu8 : u ≤ 8 := by
   have h1 := hS.vd
   have h2 := hax.dim (t.dims.getD j 0) (by rw [getD_of g2]; exact List.getElem_mem _)
   omega
  have hub : 0 ≤ (u : Int) * strideL t.labels t.dims x := Int.mul_nonneg (by omega) hsx.1
  have hub2 : (u : Int) * strideL t.labels t.dims x ≤ (u : Int) * 4096 := Int.mul_le_mul_of_nonneg_left hsx.2 (by omega)
  simp (disch := omega) only [go_sem, seval, reduceCtorEq, d1, htD]
  (refine ti_call (stridesOf_d (t := t) (L := W) hax (by omega) (by omega)) ?_ ?_ ?_; (focus (simp only [go_sem, seval, reduceCtorEq]; done)); (first | rfl | (focus (simp only [go_sem]; done))))
  simp (disch := omega) only [go_sem, seval, reduceCtorEq]
  (refine ti_call (stridesOf_d (t := t) (L := [x]) hax (by omega) (by simp)) ?_ ?_ ?_; (focus (simp only [go_sem, seval, reduceCtorEq, dv_sing]; done)); (first | rfl | (focus (simp only [go_sem]; done))))
  simp (disch := omega) only [go_sem, seval, reduceCtorEq, List.map_cons, List.map_nil, iv_sing]
  refine ⟨by omega, ?_⟩
  (refine wpN_lwk (Wk.nilS 4 2 1 _ _ _ rfl rfl) ?_; simp only [go_sem, seval, reduceCtorEq])
  have hd0 : digits (sliD t j) 0 = List.replicate W.length 0 := by rw [digits_zero, hDl]
  obtain ⟨hNN, hN1⟩ := hS.pN
  have hNn0 := hS.nN
  refine wpN_lpS (0) (fun i => sliN t j - i) (mkB 100 1267645764524950942980004381184) (fun i => i < sliN t j) (fun i => []) (fun i => [(4, [.own 3 0 W.length, .own 5 0 W.length, .own 10 0 (i * wd)]), (9, iv (digits (sliD t j) (i : Int))), (10, iv (gath t.data wd (offJ u t.dims j) i))]) (hi := by omega) (h1 := by first | (simp only [go_sem, seval, reduceCtorEq, nz, na, n1, hd0, gath, Nat.zero_mul, iv_nil]; first | done | rfl) | rfl) (h2 := by first | (simp only [go_sem, seval, reduceCtorEq, nz, na, n1, hd0, gath, Nat.zero_mul, iv_nil]; first | done | rfl) | rfl) (hr := fun i hi => ?_)
  unfold L0_impl_SliceTensor
  have hdl : (digits (sliD t j) i).length = W.length := by simp [digits_len, hDl]
  have hdl2 : (digits (sliD t j) (i + 1)).length = W.length := by simp [digits_len, hDl]
  have ht1 : List.take W.length (W.map (strideL t.labels t.dims)) = W.map (strideL t.labels t.dims) := List.take_of_length_le (by simp)
  have ht2 : List.take W.length (digits (sliD t j) i) = digits (sliD t j) i := List.take_of_length_le (by omega)
  have hoff := hS.off hi
  have hcut := hS.cut hi
  have hst := mul_step (wd := wd) hi
  have hNn : sliN t j * wd ≤ n * wd := Nat.mul_le_mul_right wd hNn0
  have hgl : (gath t.data wd (offJ u t.dims j) i).length = i * wd := gath_len fun q hq => hS.cut (by omega)
  have hofn := hS.offn hi
  have hdotb := fun q => hS.dotb i q
  rw [hWg] at hoff hdotb
  have hdot0 : 0 ≤ dotI (W.map (strideL t.labels t.dims)) (digits (sliD t j) i) := by
   have := (dotI_bd (a := W.map (strideL t.labels t.dims)) (b := digits (sliD t j) i) (by simp [hdl]) (fun q _ => hdotb q) W.length (by simp)).1
   rwa [ht1, ht2] at this
  have hcl := cut_len hcut
  have hcd : wd ≤ ((t.data.drop (offJ u t.dims j i * wd)).take wd).length := by omega
  have htt : List.take wd (List.take wd (List.drop (offJ u t.dims j i * wd) t.data)) = List.take wd (List.drop (offJ u t.dims j i * wd) t.data) := List.take_of_length_le (by omega)
  simp only [go_sem, seval, reduceCtorEq]
  (refine gi_call (dotOf_d (a := W.map (strideL t.labels t.dims)) (b := digits (sliD t j) i) (by simp [hdl]) (by simp; omega) (fun q _ => hdotb q)) ?_ ?_ ?_; (focus (simp only [go_sem, seval, reduceCtorEq, ht1, ht2, hdl]; done)); (first | rfl | (focus (simp only [go_sem]; done))))
  simp (disch := omega) only [go_sem, seval, reduceCtorEq, hoff]
  (refine gi_call (rawElem_d (t := t) (x := offJ u t.dims j i) e1 (by omega) hcut (by omega) (by omega)) ?_ ?_ ?_; (focus (simp only [go_sem, seval, reduceCtorEq]; done)); (first | rfl | (focus (simp only [go_sem]; done))))
  simp (disch := omega) only [go_sem, seval, reduceCtorEq, hcl, hgl, htt]
  refine ⟨by omega, ?_⟩
  (refine ti_callw [9] false (nextIndex_d (ds := sliD t j) (n := i) (fun d hd => by have := hS.dbd d hd; omega) (by omega) (by omega)) (of_decide_eq_true rfl) ?_ ?_ ?_ ?_ (of_decide_eq_true rfl) ?_; (focus (simp only [go_sem, seval, reduceCtorEq, hDl, htD, hdl, hdl2]; done)); (focus (simp only [go_sem, seval, reduceCtorEq]; done)); (focus (simp only [go_sem, seval, reduceCtorEq, hDl, htD, hdl, hdl2]; done)); (focus (simp only [go_sem, seval, reduceCtorEq]; done)))
  by_cases hlast : i + 1 < sliN t j
  ·have hde : decide (((i : Int) + 1) % prodI (sliD t j) ≠ 0) = true := by
    rw [hNN, Int.emod_eq_of_lt (by omega) (by omega)]
    exact decide_eq_true (by omega)
   simp (disch := omega) only [go_sem, seval, reduceCtorEq, hde]
   (refine NextS.drop (mkB 100 1267645764524950942980004381184) (i + 1) (by omega) (by omega) (h1 := ?_) (h2 := ?_) <;> first | (simp only [go_sem, seval, reduceCtorEq, nz, na, n1, gath, Nat.add_mul, Nat.one_mul]; first | done | rfl) | rfl | skip)
  ·have hde : decide (((i : Int) + 1) % prodI (sliD t j) ≠ 0) = false := by
    have : (i : Int) + 1 = sliN t j := by omega
    rw [hNN, this, Int.emod_self]
    rfl
   have hNs : sliN t j = i + 1 := by omega
   have hst1 : (i + 1) * wd = i * wd + wd := by rw [Nat.add_mul, Nat.one_mul]
   have hgl2 : (gath t.data wd (offJ u t.dims j) (i + 1)).length = i * wd + wd := by rw [gath_len fun q hq => hS.cut (by omega), hst1]
   simp (disch := omega) only [go_sem, seval, reduceCtorEq, hde, e3, ho]
   refine FnEnd.wk Wk.nogA ?_
   (refine FnEnd.mk (nb rfl) rfl (of_decide_eq_true rfl) ?_ ?_ <;> try simp only [go_sem, seval, reduceCtorEq])
   rw [gath] at hgl2
   all_goals simp only [sliR, hNs, hWg, hDl, hgl2, gath]
set_option maxRecDepth 100000
theorem gathF_len {src : List Int} {wd : Nat} {p : Nat → Bool} : ∀ {n : Nat}, n * wd ≤ src.length → (gathF src wd p n).length ≤ n * wd
 | 0, _ => by simp [gathF]
 | n + 1, h => by
  rw [Nat.add_mul, Nat.one_mul] at h ⊢
  have ih := gathF_len (src := src) (wd := wd) (p := p) (n := n) (by omega)
  rw [gathF]
  split
  ·rw [List.length_append, cut_len (by omega)]; omega
  ·omega
theorem l09Slice_d {kk pp nn : Int} {t : Ten} {x : Int} {u wd n j : Nat} (hw : width ⟨kk, pp, nn⟩ = wd) (hS : SliOk t x u wd n j) (h : TSz 1048576 t) :
  Does Try.prog 96 [ringA kk pp nn, tenA t, .d (.int x), .d (.int u)] [] (ownT 0 (sliR wd t x u j)) (stoF (sliR wd t x u j)) := by
 have hxl := h.x.len
 have hax := hS.ax
 have hl12 := hax.1
 have hal := hax.len
 have hpl := hS.place
 have hn1 := hS.n1
 have hwb := hS.w1
 have hpn := hS.pn
 have hdl3 := hS.dl
 have hjd := hS.jd
 (refine spec_of (by kernel_rfl) Try.func96 k_spec_l09Slice (fnOk (nb rfl) ?_); unfold C_spec_l09Slice)
 (simp only [Nat.reduceSub, List.length_cons, List.length_nil, Nat.reduceAdd, ch_init1, ch_init2, ch_init3, ch_init4, ch_init5, ch_init6, ch_init7, ch_init8]; try simp only [ch_rep]); (simp only [go_sem, seval, reduceCtorEq, List.replicate])
 (refine ti_call (l05Find_d (xs := t.labels) (x := x) h.l.up.len) ?_ ?_ ?_; (focus (simp only [go_sem, seval, reduceCtorEq]; done)); (first | rfl | (focus (simp only [go_sem]; done))))
 simp (disch := omega) only [go_sem, seval, reduceCtorEq, hpl]
 (refine wpN_lwk (Wk.nilS 3 0 1 _ _ _ rfl rfl) ?_; simp only [go_sem, seval, reduceCtorEq])
 (refine wpN_lwk (Wk.nilS 3 1 1 _ _ _ rfl rfl) ?_; simp only [go_sem, seval, reduceCtorEq])
 generalize hF : (fun k : Nat => (t.labels.take k).filter (· != x)) = F
 have hF0 : F 0 = [] := by rw [← hF]; rfl
 have hFl : ∀ k, (F k).length ≤ 12 := fun k => by
  rw [← hF]
  have := filter_len t.labels k (· != x)
  simp only
  omega
 have hFn : F t.labels.length = wo t.labels x := by rw [← hF]; simp [wo]
 refine wpN_lp (t.labels.length) (mkB 72 140737479972864) (fun k => [(22, .d (.int k))]) (fun k => [(3, [.own 4 0 (F k).length, .own 5 0 (F k).length, .nil]), (4, iv (F k)), (5, iv ((F k).map (dimAt t)))]) (h1 := by first | (simp only [go_sem, seval, reduceCtorEq, nz, na, n1, hF0, List.map_nil, iv_nil]; first | done | rfl) | rfl) (h2 := by first | (simp only [go_sem, seval, reduceCtorEq, nz, na, n1, hF0, List.map_nil, iv_nil]; first | done | rfl) | rfl) (hr := fun k hk => ?_)
 unfold L1_spec_l09Slice
 by_cases hlt : k < t.labels.length
 ·have d1 : (k : Int) < t.labels.length := by omega
  have g : t.labels[k]? = some t.labels[k] := List.getElem?_eq_getElem hlt
  have hkd : k < t.dims.length := by omega
  have g2 : t.dims[k]? = some (dimAt t t.labels[k]) := by rw [List.getElem?_eq_getElem hkd, dimAt_at hax hlt hkd]
  have d2 : (k : Int) < t.dims.length := by omega
  have hfl := hFl k
  by_cases hkj : k = j
  ·have hne : ((k : Int) != j) = false := by simp [hkj]
   have hx : t.labels[k] = x := by have := hS.lx; subst hkj; exact this
   have hstep : F (k + 1) = F k := by rw [← hF]; exact filter_no hlt (by simp [hx])
   simp (disch := omega) only [go_sem, seval, reduceCtorEq, d1, g, hne]
   (refine Next.drop (mkB 72 140737479972864) (by omega) (h1 := ?_) (h2 := ?_) <;> first | (simp only [go_sem, seval, reduceCtorEq, nz, na, n1, hstep]; first | done | rfl) | rfl | skip)
  ·have hne : ((k : Int) != j) = true := by simp; omega
   have hx : t.labels[k] ≠ x := fun e => by
    have := nodup_at hS.nodup hlt hS.jl (e.trans hS.lx.symm)
    omega
   have hstep : F (k + 1) = F k ++ [t.labels[k]] := by rw [← hF]; exact filter_yes hlt (by simpa using hx)
   have hml : ((F k).map (dimAt t)).length = (F k).length := by simp
   simp (disch := omega) only [go_sem, seval, reduceCtorEq, d1, d2, g, g2, hne]
   refine ⟨by omega, by omega, ?_⟩
   (refine Next.drop (mkB 72 140737479972864) (by omega) (h1 := ?_) (h2 := ?_) <;> first | (simp only [go_sem, seval, reduceCtorEq, nz, na, n1, hstep, List.map_append, List.map_cons, List.map_nil, List.length_append]; first | done | rfl) | rfl | skip)
 ·have d1 : ¬ (k : Int) < t.labels.length := by omega
  have hkl : k = t.labels.length := by omega
  subst hkl
  have hWl := hS.len
  have hDs := hS.dims
  simp (disch := omega) only [go_sem, seval, reduceCtorEq, d1, hFn, hDs]
  generalize hWg : wo t.labels x = W at *
  (refine wpN_lwk (Wk.nilS 3 2 1 _ _ _ rfl rfl) ?_; simp only [go_sem, seval, reduceCtorEq])
  have hP := prodN_eq hS.d1
  generalize hp : (fun n : Nat => decide ((digits t.dims n).getD j 0 = (u : Int))) = p
  refine wpN_lp (n) (mkB 72 2361183100697334251520) (fun i => [(13, .d (.int i))]) (fun i => [(3, [.own 4 0 W.length, .own 5 0 W.length, .own 6 0 (gathF t.data wd p i).length]), (6, iv (gathF t.data wd p i))]) (h1 := by first | (simp only [go_sem, seval, reduceCtorEq, nz, na, n1, gathF, iv_nil]; first | done | rfl) | rfl) (h2 := by first | (simp only [go_sem, seval, reduceCtorEq, nz, na, n1, gathF, iv_nil]; first | done | rfl) | rfl) (hr := fun i hi => ?_)
  unfold L0_spec_l09Slice
  simp only [go_sem, seval, reduceCtorEq]
  (refine ti_call (l05Product_d (ds := t.dims) (lim := 4096) h.d.up.len (fun d hd => by have := hax.dim d hd; omega) (by omega)) ?_ ?_ ?_; (focus (simp only [go_sem, seval, reduceCtorEq]; done)); (first | rfl | (focus (simp only [go_sem]; done))))
  have hmn : min (prodI t.dims) 4097 = n := by omega
  by_cases hlti : i < n
  ·have c2 : (i : Int) < n := by omega
   have hst := mul_step (wd := wd) hlti
   have hnw : n * wd ≤ 4096 * 6 := Nat.mul_le_mul (by omega) hwb.2
   have hgl := gathF_len (src := t.data) (wd := wd) (p := p) (n := i) (by omega)
   have hcut : i * wd + wd ≤ t.data.length := by omega
   have hcl := cut_len hcut
   have htt : List.take wd (List.take wd (List.drop (i * wd) t.data)) = List.take wd (List.drop (i * wd) t.data) := List.take_of_length_le (by omega)
   simp (disch := omega) only [go_sem, seval, reduceCtorEq, hmn, c2]
   (refine ti_call (l05Index_d (ds := t.dims) (n := i) (fun d hd => by have := hax.dim d hd; omega) (by omega) (by omega)) ?_ ?_ ?_; (focus (simp only [go_sem, seval, reduceCtorEq]; done)); (first | rfl | (focus (simp only [go_sem]; done))))
   have hdl := digits_len t.dims i
   have g3 : (digits t.dims i)[j]? = some ((digits t.dims i).getD j 0) := by rw [getD_of (by omega)]; exact List.getElem?_eq_getElem (by omega)
   have c3 : (j : Int) < t.dims.length := by omega
   by_cases hpi : (digits t.dims i).getD j 0 = (u : Int)
   ·have hb : ((digits t.dims i).getD j 0 == (u : Int)) = true := beq_iff_eq.2 hpi
    have hst2 : gathF t.data wd p (i + 1) = gathF t.data wd p i ++ (t.data.drop (i * wd)).take wd := by rw [gathF, if_pos (by simp only [← hp]; exact decide_eq_true hpi)]
    simp (disch := omega) only [go_sem, seval, reduceCtorEq, g3, c3, hb]
    (refine gi_call (l05Get_d (t := t) (x := i) hw (by omega) hcut (by omega) (by omega)) ?_ ?_ ?_; (focus (simp only [go_sem, seval, reduceCtorEq]; done)); (first | rfl | (focus (simp only [go_sem]; done))))
    simp (disch := omega) only [go_sem, seval, reduceCtorEq, hcl, htt]
    refine ⟨by omega, ?_⟩
    (refine Next.drop (mkB 72 2361183100697334251520) (by omega) (h1 := ?_) (h2 := ?_) <;> first | (simp only [go_sem, seval, reduceCtorEq, nz, na, n1, hst2, List.length_append, hcl]; first | done | rfl) | rfl | skip)
   ·have hb : ((digits t.dims i).getD j 0 == (u : Int)) = false := beq_false_of_ne hpi
    have hst2 : gathF t.data wd p (i + 1) = gathF t.data wd p i := by rw [gathF, if_neg (by simp only [← hp, decide_eq_true_eq]; exact hpi)]
    simp (disch := omega) only [go_sem, seval, reduceCtorEq, g3, c3, hb]
    (refine Next.drop (mkB 72 2361183100697334251520) (by omega) (h1 := ?_) (h2 := ?_) <;> first | (simp only [go_sem, seval, reduceCtorEq, nz, na, n1, hst2]; first | done | rfl) | rfl | skip)
  ·have hin : i = n := by omega
   have c2 : ¬ (n : Int) < n := by omega
   have hfin : gathF t.data wd p n = gath t.data wd (offJ u t.dims j) (sliN t j) := by
    have : n = prodN t.dims := by have := hP.1; omega
    rw [this, ← hp]
    exact gathF_gath hS.d1 hjd hS.vd
   have hDl := hS.dlen
   rw [hin]
   simp (disch := omega) only [go_sem, seval, reduceCtorEq, hmn, c2, hfin]
   refine FnEnd.wk Wk.nogA ?_
   (refine FnEnd.mk (nb rfl) rfl (of_decide_eq_true rfl) ?_ ?_ <;> try simp only [go_sem, seval, reduceCtorEq])
   all_goals simp only [sliR, hWg, hDl]
end Go.Proofs.Ytndmbmmnbocmhaa
