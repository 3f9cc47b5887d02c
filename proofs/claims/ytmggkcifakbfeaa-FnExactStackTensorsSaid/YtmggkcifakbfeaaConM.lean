/-
  Contracts: slices of tensors. No condition.
-/
import Derived.Test.YtmggkcifakbfeaaCoD
import Derived.Test.YtmggkcifakbfeaaPlA
namespace Go.Proofs.Ytmggkcifakbfeaa
open Go.RowKit Go.Lift Plain
set_option linter.unusedSimpArgs false
set_option linter.unusedVariables false
set_option maxRecDepth 100000

def wo (ls : List Int) (x : Int) : List Int := ls.filter (· != x)
theorem wo_erase : ∀ {ls : List Int} {j : Nat} (hj : j < ls.length), ls.Nodup → wo ls ls[j] = ls.eraseIdx j
  | [], j, h, _ => by simp at h
  | l :: ls, 0, _, hn => by
    simp only [List.nodup_cons] at hn
    simp only [wo, List.getElem_cons_zero, List.filter_cons, bne_self_eq_false, Bool.false_eq_true, if_false, List.eraseIdx_cons_zero]
    refine List.filter_eq_self.2 fun y hy => ?_
    simp only [bne_iff_ne, ne_eq]
    exact fun e => hn.1 (e ▸ hy)
  | l :: ls, j + 1, hj, hn => by
    simp only [List.nodup_cons] at hn
    have hj' : j < ls.length := by simpa using hj
    have ih := wo_erase hj' hn.2
    have hne : l ≠ ls[j] := fun e => hn.1 (e ▸ List.getElem_mem hj')
    simp only [wo, List.getElem_cons_succ, List.filter_cons, List.eraseIdx_cons_succ]
    rw [if_pos (by simpa using hne), ← ih]; rfl
theorem eraseIdx_map {α β : Type} (f : α → β) : ∀ (l : List α) (j : Nat), (l.map f).eraseIdx j = (l.eraseIdx j).map f
  | [], _ => by simp
  | x :: l, 0 => rfl
  | x :: l, j + 1 => by simp [eraseIdx_map f l j]
structure SliOk (t : Ten) (x : Int) (v wd n j : Nat) : Prop where
  ax : axOk t.labels t.dims
  pn : prodI t.dims = n
  n1 : 1 ≤ n ∧ n ≤ 4096
  w1 : 1 ≤ wd ∧ wd ≤ 6
  dl : t.data.length = n * wd
  jl : j < t.labels.length
  jx : t.labels[j]? = some x
  vd : (v : Int) < t.dims.getD j 0
def sliD (t : Ten) (j : Nat) : List Int := t.dims.eraseIdx j
def sliN (t : Ten) (j : Nat) : Nat := prodN (sliD t j)
namespace SliOk
variable {t : Ten} {x : Int} {v wd n j : Nat}
theorem lx (h : SliOk t x v wd n j) : t.labels[j]'h.jl = x := by have := h.jx; rw [List.getElem?_eq_getElem h.jl] at this; simpa using this
theorem nodup (h : SliOk t x v wd n j) : t.labels.Nodup := axOk_nodup h.ax
theorem W (h : SliOk t x v wd n j) : wo t.labels x = t.labels.eraseIdx j := by have := wo_erase h.jl h.nodup; rwa [h.lx] at this
theorem place (h : SliOk t x v wd n j) : Plain.place t.labels x = j := by have := place_at h.jl (fresh_of h.nodup h.jl); rwa [h.lx] at this
theorem jd (h : SliOk t x v wd n j) : j < t.dims.length := by have := h.jl; have := h.ax.len; omega
theorem len (h : SliOk t x v wd n j) : (wo t.labels x).length = t.labels.length - 1 := by rw [h.W, List.length_eraseIdx_of_lt h.jl]
theorem dlen (h : SliOk t x v wd n j) : (sliD t j).length = (wo t.labels x).length := by
  rw [h.len, sliD, List.length_eraseIdx_of_lt h.jd, h.ax.len]
theorem dims (h : SliOk t x v wd n j) : (wo t.labels x).map (dimAt t) = sliD t j := by
  rw [h.W, ← eraseIdx_map, dims_map h.ax]; rfl
theorem strides (h : SliOk t x v wd n j) : (wo t.labels x).map (strideL t.labels t.dims) = (stridesR t.dims).eraseIdx j := by
  rw [h.W, ← eraseIdx_map, strideL_map _ _ h.ax.len h.nodup]
theorem stride (h : SliOk t x v wd n j) : strideL t.labels t.dims x = (stridesR t.dims).getD j 0 := by
  rw [← strideL_map _ _ h.ax.len h.nodup, getD_of (by simpa using h.jl), List.getElem_map, h.lx]
theorem d1 (h : SliOk t x v wd n j) : ∀ d ∈ t.dims, 1 ≤ d := fun d hd => (h.ax.dim d hd).1
theorem dbd (h : SliOk t x v wd n j) : ∀ d ∈ sliD t j, 1 ≤ d ∧ d ≤ 8 := fun d hd => h.ax.dim d (List.mem_of_mem_eraseIdx hd)
theorem pN (h : SliOk t x v wd n j) : prodI (sliD t j) = sliN t j ∧ 1 ≤ sliN t j := prodN_eq (fun d hd => (h.dbd d hd).1)
theorem off (h : SliOk t x v wd n j) {i : Nat} (hi : i < sliN t j) : (v : Int) * strideL t.labels t.dims x + dotI ((wo t.labels x).map (strideL t.labels t.dims)) (digits (sliD t j) i) = offJ v t.dims j i := by
  rw [h.stride, h.strides]
  exact offJ_dot v t.dims j i h.d1 h.jd hi
theorem offn (h : SliOk t x v wd n j) {i : Nat} (hi : i < sliN t j) : offJ v t.dims j i < n := by
  have h1 := offJ_filter v t.dims j h.d1 h.jd h.vd
  have h2 : offJ v t.dims j i ∈ (List.range (prodN (t.dims.eraseIdx j))).map (offJ v t.dims j) := List.mem_map.2 ⟨i, List.mem_range.2 hi, rfl⟩
  rw [← h1, List.mem_filter] at h2
  have h3 := (prodN_eq h.d1).1
  have h4 : offJ v t.dims j i < prodN t.dims := by simpa using h2.1
  have := h.pn
  omega
theorem cut (h : SliOk t x v wd n j) {i : Nat} (hi : i < sliN t j) : offJ v t.dims j i * wd + wd ≤ t.data.length := by
  rw [h.dl]; exact mul_step (h.offn hi)
theorem sbd (h : SliOk t x v wd n j) (y : Int) : 0 ≤ strideL t.labels t.dims y ∧ strideL t.labels t.dims y ≤ 4096 := by
  have h1 := strideL_bd t.labels t.dims y h.d1
  have := h.pn
  have := h.n1
  omega
theorem dotb (h : SliOk t x v wd n j) (i k : Nat) : 0 ≤ ((wo t.labels x).map (strideL t.labels t.dims)).getD k 0 * (digits (sliD t j) i).getD k 0 ∧ ((wo t.labels x).map (strideL t.labels t.dims)).getD k 0 * (digits (sliD t j) i).getD k 0 ≤ 16777216 := by
  by_cases hk : k < (wo t.labels x).length
  · have hk2 : k < (sliD t j).length := by rw [h.dlen]; exact hk
    have h1 := digits_bd (sliD t j) i (fun d hd => (h.dbd d hd).1) k hk2
    have h2 := h.dbd ((sliD t j).getD k 0) (by rw [getD_of hk2]; exact List.getElem_mem _)
    have h3 := h.sbd (wo t.labels x)[k]
    rw [getD_of (show k < ((wo t.labels x).map (strideL t.labels t.dims)).length by simpa using hk), List.getElem_map]
    generalize (digits (sliD t j) i).getD k 0 = y at *
    generalize strideL t.labels t.dims (wo t.labels x)[k] = s at *
    refine ⟨Int.mul_nonneg h3.1 h1.1, ?_⟩
    have : s * y ≤ s * 8 := Int.mul_le_mul_of_nonneg_left (by omega) h3.1
    omega
  · have : ((wo t.labels x).map (strideL t.labels t.dims)).getD k 0 = 0 := by simp [List.getD_eq_getElem?_getD, List.getElem?_eq_none (Nat.le_of_not_lt hk)]
    rw [this]; simp
end SliOk
end Go.Proofs.Ytmggkcifakbfeaa
