/-
  Contracts: slices of tensors. No condition.
-/
import Derived.Test.YtcgnehacihjnkaaCoD
import Derived.Test.YtcgnehacihjnkaaPlA
namespace Go.Proofs.Ytcgnehacihjnkaa
open Go.RowKit Go.Lift Plain
set_option linter.unusedSimpArgs false
set_option linter.unusedVariables false
set_option maxRecDepth 100000

/-- The labels but one. -/
def wo (ls : List Int) (x : Int) : List Int := ls.filter (· != x)
theorem wo_len (ls : List Int) (x : Int) : (wo ls x).length ≤ ls.length := List.length_filter_le _ _
theorem wo_mem {ls : List Int} {x y : Int} : y ∈ wo ls x ↔ y ∈ ls ∧ y ≠ x := by simp [wo]
theorem wo_erase : ∀ {ls : List Int} {j : Nat} (hj : j < ls.length), ls.Nodup → wo ls ls[j] = ls.eraseIdx j
  | [], j, h, _ => by simp at h
  | l :: ls, 0, _, hn => by
    simp only [List.nodup_cons] at hn
    simp only [wo, List.getElem_cons_zero, List.filter_cons, bne_self_eq_false, Bool.false_eq_true, if_false, List.eraseIdx_cons_zero]
    refine List.filter_eq_self.2 fun y hy => ?_
    simp only [bne_iff_ne, ne_eq]
    exact fun e => hn.1 (e ▸ hy)
  | l :: ls, j + 1, hj, hn => by
    simp only [List.nodup_cons] at hn
    have hj' : j < ls.length := by simpa using hj
    have ih := wo_erase hj' hn.2
    have hne : l ≠ ls[j] := fun e => hn.1 (e ▸ List.getElem_mem hj')
    simp only [wo, List.getElem_cons_succ, List.filter_cons, List.eraseIdx_cons_succ]
    rw [if_pos (by simpa using hne), ← ih]; rfl
theorem eraseIdx_map {α β : Type} (f : α → β) : ∀ (l : List α) (j : Nat), (l.map f).eraseIdx j = (l.eraseIdx j).map f
  | [], _ => by simp
  | x :: l, 0 => rfl
  | x :: l, j + 1 => by simp [eraseIdx_map f l j]
/-- A slice: where it can be taken. -/
structure SliOk (t : Ten) (x : Int) (v wd n j : Nat) : Prop where
  ax : axOk t.labels t.dims
  pn : prodI t.dims = n
  n1 : 1 ≤ n ∧ n ≤ 4096
  w1 : 1 ≤ wd ∧ wd ≤ 6
  dl : t.data.length = n * wd
  jl : j < t.labels.length
  jx : t.labels[j]? = some x
  vd : (v : Int) < t.dims.getD j 0
def sliD (t : Ten) (j : Nat) : List Int := t.dims.eraseIdx j
def sliN (t : Ten) (j : Nat) : Nat := prodN (sliD t j)
def sliR (wd : Nat) (t : Ten) (x : Int) (v j : Nat) : Ten := ⟨wo t.labels x, sliD t j, gath t.data wd (offJ v t.dims j) (sliN t j)⟩
namespace SliOk
variable {t : Ten} {x : Int} {v wd n j : Nat}
theorem lx (h : SliOk t x v wd n j) : t.labels[j]'h.jl = x := by have := h.jx; rw [List.getElem?_eq_getElem h.jl] at this; simpa using this
theorem nodup (h : SliOk t x v wd n j) : t.labels.Nodup := axOk_nodup h.ax
theorem W (h : SliOk t x v wd n j) : wo t.labels x = t.labels.eraseIdx j := by have := wo_erase h.jl h.nodup; rwa [h.lx] at this
theorem place (h : SliOk t x v wd n j) : Plain.place t.labels x = j := by have := place_at h.jl (fresh_of h.nodup h.jl); rwa [h.lx] at this
theorem jd (h : SliOk t x v wd n j) : j < t.dims.length := by have := h.jl; have := h.ax.len; omega
theorem len (h : SliOk t x v wd n j) : (wo t.labels x).length = t.labels.length - 1 := by rw [h.W, List.length_eraseIdx_of_lt h.jl]
theorem dlen (h : SliOk t x v wd n j) : (sliD t j).length = (wo t.labels x).length := by
  rw [h.len, sliD, List.length_eraseIdx_of_lt h.jd, h.ax.len]
theorem dims (h : SliOk t x v wd n j) : (wo t.labels x).map (dimAt t) = sliD t j := by
  rw [h.W, ← eraseIdx_map, dims_map h.ax]; rfl
theorem strides (h : SliOk t x v wd n j) : (wo t.labels x).map (strideL t.labels t.dims) = (stridesR t.dims).eraseIdx j := by
  rw [h.W, ← eraseIdx_map, strideL_map _ _ h.ax.len h.nodup]
theorem stride (h : SliOk t x v wd n j) : strideL t.labels t.dims x = (stridesR t.dims).getD j 0 := by
  rw [← strideL_map _ _ h.ax.len h.nodup, getD_of (by simpa using h.jl), List.getElem_map, h.lx]
theorem d1 (h : SliOk t x v wd n j) : ∀ d ∈ t.dims, 1 ≤ d := fun d hd => (h.ax.dim d hd).1
theorem dbd (h : SliOk t x v wd n j) : ∀ d ∈ sliD t j, 1 ≤ d ∧ d ≤ 8 := fun d hd => h.ax.dim d (List.mem_of_mem_eraseIdx hd)
theorem pN (h : SliOk t x v wd n j) : prodI (sliD t j) = sliN t j ∧ 1 ≤ sliN t j := prodN_eq (fun d hd => (h.dbd d hd).1)
theorem nN (h : SliOk t x v wd n j) : sliN t j ≤ n := by
  have h1 := prodI_sub_le (f := dimAt t) (L := wo t.labels x) (ls := t.labels) (List.Nodup.sublist List.filter_sublist h.nodup) (fun y hy => (wo_mem.1 hy).1) (fun y hy => (dimAt_bd h.ax hy).1)
  rw [dims_map h.ax, h.dims, h.pn] at h1
  have := h.pN
  omega
theorem off (h : SliOk t x v wd n j) {i : Nat} (hi : i < sliN t j) : (v : Int) * strideL t.labels t.dims x + dotI ((wo t.labels x).map (strideL t.labels t.dims)) (digits (sliD t j) i) = offJ v t.dims j i := by
  rw [h.stride, h.strides]
  exact offJ_dot v t.dims j i h.d1 h.jd hi
theorem offn (h : SliOk t x v wd n j) {i : Nat} (hi : i < sliN t j) : offJ v t.dims j i < n := by
  have h1 := offJ_filter v t.dims j h.d1 h.jd h.vd
  have h2 : offJ v t.dims j i ∈ (List.range (prodN (t.dims.eraseIdx j))).map (offJ v t.dims j) := List.mem_map.2 ⟨i, List.mem_range.2 hi, rfl⟩
  rw [← h1, List.mem_filter] at h2
  have h3 := (prodN_eq h.d1).1
  have h4 : offJ v t.dims j i < prodN t.dims := by simpa using h2.1
  have := h.pn
  omega
theorem cut (h : SliOk t x v wd n j) {i : Nat} (hi : i < sliN t j) : offJ v t.dims j i * wd + wd ≤ t.data.length := by
  rw [h.dl]; exact mul_step (h.offn hi)
theorem sbd (h : SliOk t x v wd n j) (y : Int) : 0 ≤ strideL t.labels t.dims y ∧ strideL t.labels t.dims y ≤ 4096 := by
  have h1 := strideL_bd t.labels t.dims y h.d1
  have := h.pn
  have := h.n1
  omega
theorem dotb (h : SliOk t x v wd n j) (i k : Nat) : 0 ≤ ((wo t.labels x).map (strideL t.labels t.dims)).getD k 0 * (digits (sliD t j) i).getD k 0 ∧ ((wo t.labels x).map (strideL t.labels t.dims)).getD k 0 * (digits (sliD t j) i).getD k 0 ≤ 16777216 := by
  by_cases hk : k < (wo t.labels x).length
  · have hk2 : k < (sliD t j).length := by rw [h.dlen]; exact hk
    have h1 := digits_bd (sliD t j) i (fun d hd => (h.dbd d hd).1) k hk2
    have h2 := h.dbd ((sliD t j).getD k 0) (by rw [getD_of hk2]; exact List.getElem_mem _)
    have h3 := h.sbd (wo t.labels x)[k]
    rw [getD_of (show k < ((wo t.labels x).map (strideL t.labels t.dims)).length by simpa using hk), List.getElem_map]
    generalize (digits (sliD t j) i).getD k 0 = y at *
    generalize strideL t.labels t.dims (wo t.labels x)[k] = s at *
    refine ⟨Int.mul_nonneg h3.1 h1.1, ?_⟩
    have : s * y ≤ s * 8 := Int.mul_le_mul_of_nonneg_left (by omega) h3.1
    omega
  · have : ((wo t.labels x).map (strideL t.labels t.dims)).getD k 0 = 0 := by simp [List.getD_eq_getElem?_getD, List.getElem?_eq_none (Nat.le_of_not_lt hk)]
    rw [this]; simp
end SliOk
def sliB (r : Rg) (t : Ten) (x v : Int) : Bool := tensorOk r t.labels t.dims t.data && decide (x ∈ t.labels ∧ 0 ≤ v ∧ v < dimAt t x)
def sliT (r : Rg) (t : Ten) (x v : Int) : Ten := if sliB r t x v = true then sliR (width r).toNat t x v.toNat (place t.labels x).toNat else ⟨[], [], []⟩
theorem sliB_ok {r : Rg} {t : Ten} {x v : Int} (h : sliB r t x v = true) : ∃ u wd n j : Nat, v = u ∧ width r = wd ∧ prodI t.dims = n ∧ SliOk t x u wd n j ∧ sliT r t x v = sliR wd t x u j := by
  have ho := h
  simp only [sliB, Bool.and_eq_true, decide_eq_true_eq] at h
  obtain ⟨wd, n, e1, e2, e3, e4, e5, e6, e7, e8, e9, e10⟩ := ten_facts h.1
  obtain ⟨j, g1, g2, g3, g4⟩ := dimAt_get e10.len h.2.1
  obtain ⟨j', g5, g6, g7, _⟩ := place_mem h.2.1
  obtain rfl : j = j' := by omega
  refine ⟨v.toNat, wd, n, j, by omega, e1, e2, ⟨e10, e2, ⟨e5, e6⟩, ⟨e3, e4⟩, e7, g1, by rw [List.getElem?_eq_getElem g1, g7], ?_⟩, ?_⟩
  · have : t.dims.getD j 0 = dimAt t x := by rw [List.getD_eq_getElem?_getD, g4]; rfl
    omega
  · rw [sliT, if_pos ho, e1, g3]; rfl
theorem sliT_sz {r : Rg} {t : Ten} {x v : Int} (ht : TSz 1048576 t) : TSz 1048576 (sliT r t x v) := by
  by_cases ho : sliB r t x v = true
  · obtain ⟨u, wd, n, j, rfl, e1, e2, h, e3⟩ := sliB_ok ho
    rw [e3]
    refine ⟨⟨Nat.le_trans (wo_len _ _) ht.l.len, fun y hy => ht.l.wf y (wo_mem.1 hy).1⟩, ⟨?_, fun d hd => ?_⟩, ⟨?_, fun y hy => ht.x.wf y (gath_mem y hy)⟩⟩
    · show (sliD t j).length ≤ _
      rw [h.dlen]
      exact Nat.le_trans (wo_len _ _) ht.l.len
    · have := h.dbd d hd
      exact ⟨by omega, by omega⟩
    · show (gath t.data wd (offJ u t.dims j) (sliN t j)).length ≤ _
      rw [gath_len fun q hq => h.cut hq]
      have h1 := h.nN
      have h3 := h.n1
      have h4 := h.w1
      have : sliN t j * wd ≤ 4096 * 6 := Nat.mul_le_mul (by omega) h4.2
      omega
  · rw [sliT, if_neg ho]
    exact ⟨⟨by simp, by simp⟩, ⟨by simp, by simp⟩, ⟨by simp, by simp⟩⟩
theorem digits_zero : ∀ ds : List Int, digits ds 0 = List.replicate ds.length 0
  | [] => rfl
  | d :: ds => by rw [digits_cons, digits_zero ds]; simp [List.replicate_succ]
theorem dv_sing (x : Int) : dv [x] = [D.int x] := nr rfl
theorem iv_sing (x : Int) : iv [x] = [AV.d (.int x)] := nr rfl
theorem withoutInt_w {xs : List Int} {x : Int} (h : xs.length ≤ 1099511627776) : Does Try.prog 107 [.d (ints xs), .d (.int x)] [] (.own 0 0 (wo xs x).length) [some ⟨1, true, iv (wo xs x)⟩] := withoutInt_d h
end Go.Proofs.Ytcgnehacihjnkaa
