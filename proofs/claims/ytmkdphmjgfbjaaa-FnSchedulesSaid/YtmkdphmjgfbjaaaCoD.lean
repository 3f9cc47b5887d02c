/-
 Contracts: strides, sums of products, the next index, the index at an offset. No condition.
-/
import Derived.Test.YtmkdphmjgfbjaaaCoB
import Derived.Test.YtmkdphmjgfbjaaaPlA
set_option linter.unusedSimpArgs false
set_option linter.unusedVariables false
namespace Go.Proofs.Ytmkdphmjgfbjaaa
open Go.RowKit Go.Lift Plain
set_option maxRecDepth 100000
theorem zeros_one (z : List AV) : Go.Lift.zeros 1 z = z := by simp [Go.Lift.zeros]
theorem zeros_zero (z : List AV) : Go.Lift.zeros 0 z = [] := by simp [Go.Lift.zeros]
theorem zeros_two (z : List AV) : Go.Lift.zeros 2 z = z ++ z := by simp [Go.Lift.zeros, List.replicate]
attribute [go_sem high] zeros_zero zeros_one zeros_two
set_option maxRecDepth 100000
def permD (t : Ten) (L : List Int) : List Int := L.map (dimAt t)
def permOff (t : Ten) (L : List Int) (i : Nat) : Nat := (dotI (L.map (strideL t.labels t.dims)) (digits (permD t L) i)).toNat
def permN (t : Ten) (L : List Int) : Nat := (prodI (permD t L)).toNat
def permR (wd : Nat) (t : Ten) (L : List Int) : Ten := ⟨L, permD t L, gath t.data wd (permOff t L) (permN t L)⟩
structure PermOk (t : Ten) (L : List Int) (wd n : Nat) : Prop where
 ax : axOk t.labels t.dims
 pn : prodI t.dims = n
 n1 : 1 ≤ n ∧ n ≤ 4096
 w1 : 1 ≤ wd ∧ wd ≤ 6
 dl : t.data.length = n * wd
 same : sameB t.labels L = true
namespace PermOk
variable {t : Ten} {L : List Int} {wd n : Nat}
theorem len (h : PermOk t L wd n) : L.length = t.labels.length := (of_decide_eq_true h.same).1
theorem sub (h : PermOk t L wd n) : ∀ x ∈ L, x ∈ t.labels := fun x hx => by
 obtain ⟨k, hk, rfl⟩ := List.mem_iff_getElem.1 hx
 exact ((of_decide_eq_true h.same).2 k hk).1
theorem nodup (h : PermOk t L wd n) : L.Nodup := nodup_of_fresh fun k hk => ((of_decide_eq_true h.same).2 k hk).2
theorem sup (h : PermOk t L wd n) : ∀ x ∈ t.labels, x ∈ L := sub_back h.nodup h.sub (Nat.le_of_eq h.len.symm)
theorem dbd (h : PermOk t L wd n) : ∀ d ∈ permD t L, 1 ≤ d ∧ d ≤ 8 := fun d hd => by
 simp only [permD, List.mem_map] at hd
 obtain ⟨x, hx, rfl⟩ := hd
 exact dimAt_bd h.ax (h.sub x hx)
theorem pbd (h : PermOk t L wd n) : 1 ≤ prodI (permD t L) ∧ prodI (permD t L) ≤ n := by
 refine ⟨prodI_pos _ (fun d hd => (h.dbd d hd).1), ?_⟩
 have := prodI_sub_le (f := dimAt t) h.nodup h.sub (fun x hx => (dimAt_bd h.ax hx).1)
 rw [dims_map h.ax, h.pn] at this
 exact this
theorem pN (h : PermOk t L wd n) : prodI (permD t L) = permN t L := by have := h.pbd; unfold permN; omega
theorem idx (h : PermOk t L wd n) (i : Nat) : idxOk t.dims (t.labels.map (atL L (digits (permD t L) i))) := by
 refine ⟨by simp [h.ax.len], fun k hk => ?_⟩
 have hk' : k < t.labels.length := by have := h.ax.len; omega
 have hm := h.sup t.labels[k] (List.getElem_mem hk')
 obtain ⟨q, h1, h2, h3, h4⟩ := atL_mem (xs := digits (permD t L) i) hm (by simp [digits_len, permD])
 have h5 := digits_bd (permD t L) i (fun d hd => (h.dbd d hd).1) q (by simpa [permD] using h1)
 have h6 : (permD t L).getD q 0 = t.dims.getD k 0 := by
  rw [getD_of (by simpa [permD] using h1), getD_of hk]
  have h7 : L[q] = t.labels[k] := by rw [List.getElem?_eq_getElem h1] at h3; simpa using h3
  simp only [permD, List.getElem_map, h7]
  exact dimAt_at h.ax hk' hk
 unfold idxAt
 have h8 : (t.labels.map (atL L (digits (permD t L) i))).getD k 0 = atL L (digits (permD t L) i) t.labels[k] := by rw [getD_of (by simpa using hk')]; simp
 rw [h8, h4, ← h6]
 exact h5
theorem off (h : PermOk t L wd n) (i : Nat) : dotI (L.map (strideL t.labels t.dims)) (digits (permD t L) i) = permOff t L i ∧ permOff t L i < n ∧ offs t.dims (t.labels.map (atL L (digits (permD t L) i))) = permOff t L i := by
 have h1 := off_labels h.ax.len (axOk_nodup h.ax) h.nodup h.sup (xs := digits (permD t L) i) (by simp [digits_len, permD])
 have h2 := offs_bd _ _ _ h.ax (h.idx i)
 have h3 := h.pn
 unfold permOff
 rw [h1]
 omega
theorem cut (h : PermOk t L wd n) (i : Nat) : permOff t L i * wd + wd ≤ t.data.length := by
 rw [h.dl]; exact mul_step (h.off i).2.1
end PermOk
set_option maxRecDepth 100000
set_option maxRecDepth 100000
set_option maxRecDepth 100000
set_option maxRecDepth 100000
def wo (ls : List Int) (x : Int) : List Int := ls.filter (· != x)
theorem wo_erase : ∀ {ls : List Int} {j : Nat} (hj : j < ls.length), ls.Nodup → wo ls ls[j] = ls.eraseIdx j
 | [], j, h, _ => by simp at h
 | l :: ls, 0, _, hn => by
  simp only [List.nodup_cons] at hn
  simp only [wo, List.getElem_cons_zero, List.filter_cons, bne_self_eq_false, Bool.false_eq_true, if_false, List.eraseIdx_cons_zero]
  refine List.filter_eq_self.2 fun y hy => ?_
  simp only [bne_iff_ne, ne_eq]
  exact fun e => hn.1 (e ▸ hy)
 | l :: ls, j + 1, hj, hn => by
  simp only [List.nodup_cons] at hn
  have hj' : j < ls.length := by simpa using hj
  have ih := wo_erase hj' hn.2
  have hne : l ≠ ls[j] := fun e => hn.1 (e ▸ List.getElem_mem hj')
  simp only [wo, List.getElem_cons_succ, List.filter_cons, List.eraseIdx_cons_succ]
  rw [if_pos (by simpa using hne), ← ih]; rfl
theorem eraseIdx_map {α β : Type} (f : α → β) : ∀ (l : List α) (j : Nat), (l.map f).eraseIdx j = (l.eraseIdx j).map f
 | [], _ => by simp
 | x :: l, 0 => rfl
 | x :: l, j + 1 => by simp [eraseIdx_map f l j]
structure SliOk (t : Ten) (x : Int) (v wd n j : Nat) : Prop where
 ax : axOk t.labels t.dims
 pn : prodI t.dims = n
 n1 : 1 ≤ n ∧ n ≤ 4096
 w1 : 1 ≤ wd ∧ wd ≤ 6
 dl : t.data.length = n * wd
 jl : j < t.labels.length
 jx : t.labels[j]? = some x
 vd : (v : Int) < t.dims.getD j 0
def sliD (t : Ten) (j : Nat) : List Int := t.dims.eraseIdx j
def sliN (t : Ten) (j : Nat) : Nat := prodN (sliD t j)
def sliR (wd : Nat) (t : Ten) (x : Int) (v j : Nat) : Ten := ⟨wo t.labels x, sliD t j, gath t.data wd (offJ v t.dims j) (sliN t j)⟩
namespace SliOk
variable {t : Ten} {x : Int} {v wd n j : Nat}
theorem lx (h : SliOk t x v wd n j) : t.labels[j]'h.jl = x := by have := h.jx; rw [List.getElem?_eq_getElem h.jl] at this; simpa using this
theorem nodup (h : SliOk t x v wd n j) : t.labels.Nodup := axOk_nodup h.ax
theorem W (h : SliOk t x v wd n j) : wo t.labels x = t.labels.eraseIdx j := by have := wo_erase h.jl h.nodup; rwa [h.lx] at this
theorem place (h : SliOk t x v wd n j) : Plain.place t.labels x = j := by have := place_at h.jl (fresh_of h.nodup h.jl); rwa [h.lx] at this
theorem jd (h : SliOk t x v wd n j) : j < t.dims.length := by have := h.jl; have := h.ax.len; omega
theorem len (h : SliOk t x v wd n j) : (wo t.labels x).length = t.labels.length - 1 := by rw [h.W, List.length_eraseIdx_of_lt h.jl]
theorem dims (h : SliOk t x v wd n j) : (wo t.labels x).map (dimAt t) = sliD t j := by
 rw [h.W, ← eraseIdx_map, dims_map h.ax]; rfl
theorem strides (h : SliOk t x v wd n j) : (wo t.labels x).map (strideL t.labels t.dims) = (stridesR t.dims).eraseIdx j := by
 rw [h.W, ← eraseIdx_map, strideL_map _ _ h.ax.len h.nodup]
theorem stride (h : SliOk t x v wd n j) : strideL t.labels t.dims x = (stridesR t.dims).getD j 0 := by
 rw [← strideL_map _ _ h.ax.len h.nodup, getD_of (by simpa using h.jl), List.getElem_map, h.lx]
theorem d1 (h : SliOk t x v wd n j) : ∀ d ∈ t.dims, 1 ≤ d := fun d hd => (h.ax.dim d hd).1
theorem dbd (h : SliOk t x v wd n j) : ∀ d ∈ sliD t j, 1 ≤ d ∧ d ≤ 8 := fun d hd => h.ax.dim d (List.mem_of_mem_eraseIdx hd)
theorem pN (h : SliOk t x v wd n j) : prodI (sliD t j) = sliN t j ∧ 1 ≤ sliN t j := prodN_eq (fun d hd => (h.dbd d hd).1)
theorem off (h : SliOk t x v wd n j) {i : Nat} (hi : i < sliN t j) : (v : Int) * strideL t.labels t.dims x + dotI ((wo t.labels x).map (strideL t.labels t.dims)) (digits (sliD t j) i) = offJ v t.dims j i := by
 rw [h.stride, h.strides]
 exact offJ_dot v t.dims j i h.d1 h.jd hi
theorem offn (h : SliOk t x v wd n j) {i : Nat} (hi : i < sliN t j) : offJ v t.dims j i < n := by
 have h1 := offJ_filter v t.dims j h.d1 h.jd h.vd
 have h2 : offJ v t.dims j i ∈ (List.range (prodN (t.dims.eraseIdx j))).map (offJ v t.dims j) := List.mem_map.2 ⟨i, List.mem_range.2 hi, rfl⟩
 rw [← h1, List.mem_filter] at h2
 have h3 := (prodN_eq h.d1).1
 have h4 : offJ v t.dims j i < prodN t.dims := by simpa using h2.1
 have := h.pn
 omega
theorem cut (h : SliOk t x v wd n j) {i : Nat} (hi : i < sliN t j) : offJ v t.dims j i * wd + wd ≤ t.data.length := by
 rw [h.dl]; exact mul_step (h.offn hi)
end SliOk
def sliB (r : Rg) (t : Ten) (x v : Int) : Bool := tensorOk r t.labels t.dims t.data && decide (x ∈ t.labels ∧ 0 ≤ v ∧ v < dimAt t x)
def sliT (r : Rg) (t : Ten) (x v : Int) : Ten := if sliB r t x v = true then sliR (width r).toNat t x v.toNat (place t.labels x).toNat else ⟨[], [], []⟩
set_option maxRecDepth 100000
set_option maxRecDepth 100000
def fuL (t : Ten) (L : List Int) (x : Int) : List Int := wol t.labels L ++ [x]
def fuD (t : Ten) (L : List Int) : List Int := permD t (wol t.labels L) ++ [prodI (permD t L)]
structure FuOk (r : Rg) (t : Ten) (L : List Int) (x : Int) (wd n : Nat) : Prop where
 w : width r = wd
 p : PermOk t (wol t.labels L ++ L) wd n
 ok : ∀ x, tensorOk r (fuL t L x) (fuD t L) (permR wd t (wol t.labels L ++ L)).data = decide (tsize (fuL t L x) (fuD t L) ≠ -1)
 pl : prodI (permD t L) ≤ 4096 ∧ 1 ≤ prodI (permD t L)
 dl : ∀ d ∈ permD t L, 1 ≤ d ∧ d ≤ 8
 len : (wol t.labels L).length ≤ 12 ∧ L.length ≤ 12
 dle : ((permR wd t (wol t.labels L ++ L)).data.length) ≤ 24576
def add1 (r : Rg) (a b : Int) : Int :=
 if r.k = 1 ∨ r.k = 5 then max a b else if r.k = 3 then min (a + b) r.p else if r.k = 4 then min a b else if r.k = 6 then orI a b else (a + b).tmod r.p
def addE (r : Rg) (x y : List Int) : List Int := List.zipWith (add1 r) x y
theorem addE_len {r : Rg} {x y : List Int} {n : Nat} (h : x.length = n) (h' : y.length = n) : (addE r x y).length = n := by simp [addE, h, h']
def cutE (x : List Int) (wd k : Nat) : List Int := (x.drop (k * wd)).take wd
section
variable {f : List Int → List Int → List Int} {x y z : List Int} {wd n k : Nat}
theorem cutE_len (h : x.length = n * wd) (hk : k < n) : (cutE x wd k).length = wd := by
 have := mul_step (wd := wd) hk
 unfold cutE
 rw [List.length_take, List.length_drop]
 omega
end
def alS (r : Rg) (a b : Ten) : Bool := tensorOk r a.labels a.dims a.data && tensorOk r b.labels b.dims b.data && sameB a.labels b.labels
def alB (r : Rg) (a b : Ten) : Bool := alS r a b && decide (permD b a.labels = a.dims)
def alT (r : Rg) (a b : Ten) : Ten := permR (width r).toNat b a.labels
structure AlOk (r : Rg) (a b : Ten) (wd n : Nat) : Prop where
 ring : ringOk r = true
 w : width r = wd
 wb : 1 ≤ wd ∧ wd ≤ 6
 pa : prodI a.dims = n
 n1 : 1 ≤ n ∧ n ≤ 4096
 ax : axOk a.labels a.dims
 la : a.data.length = n * wd
 lb : (alT r a b).data.length = n * wd
 fa : fits r a.data
 fb : fits r (alT r a b).data
 dims : permD b a.labels = a.dims
theorem fits_cutE {r : Rg} {x : List Int} (h : fits r x) (wd k : Nat) : fits r (cutE x wd k) := fits_cut h (k * wd) wd
namespace AlOk
variable {r : Rg} {a b : Ten} {wd n : Nat}
theorem add (h : AlOk r a b wd n) : ∀ k, k < n → (addE r (cutE a.data wd k) (cutE (alT r a b).data wd k)).length = wd := fun k hk => addE_len (cutE_len h.la hk) (cutE_len h.lb hk)
theorem mul (h : AlOk r a b wd n) : ∀ k, k < n → (mulE r (cutE a.data wd k) (cutE (alT r a b).data wd k)).length = wd := fun k hk => (mulE_facts h.ring h.w (fits_cutE h.fa wd k) (fits_cutE h.fb wd k) (cutE_len h.la hk) (cutE_len h.lb hk)).1
end AlOk
set_option maxRecDepth 100000
def alR (r : Rg) (a b : Ten) : Ten := bif alB r a b then ⟨a.labels, a.dims, (alT r a b).data⟩ else ⟨[], [], []⟩
end Go.Proofs.Ytmkdphmjgfbjaaa
namespace Go.Proofs.Ytmkdphmjgfbjaaa
open Plain
theorem topQ {r : Rg} (h : r.k = 3 ∨ r.k = 4 ∨ r.k = 5) : top r = r.p := by unfold top; rw [if_neg (by omega), if_pos h]
def zeroE (kk pp : Int) (wd : Nat) : List Int := if kk = 4 then (List.replicate wd 0).set 0 pp else List.replicate wd 0
theorem zeroE_len (kk pp : Int) (wd : Nat) : (zeroE kk pp wd).length = wd := by unfold zeroE; split <;> simp
theorem zeroE_fits {r : Rg} {wd : Nat} (hr : ringOk r = true) : fits r (zeroE r.k r.p wd) := fits_of fun x hx => by
 have ht := top_bd hr
 unfold zeroE at hx
 split at hx
 ·rename_i h4
  have := topQ (r := r) (by omega)
  rcases List.mem_or_eq_of_mem_set hx with h | h
  ·have := List.eq_of_mem_replicate h; omega
  ·omega
 ·have := List.eq_of_mem_replicate hx; omega
def repE (z : List Int) : Nat → List Int
 | 0 => []
 | k + 1 => repE z k ++ z
theorem repE_len (z : List Int) : ∀ k, (repE z k).length = k * z.length
 | 0 => by simp [repE]
 | k + 1 => by rw [repE, List.length_append, repE_len z k, Nat.succ_mul]
theorem putE_mem {xs ys : List Int} {off : Nat} : ∀ x ∈ putE xs off ys, x ∈ xs ∨ x ∈ ys := fun x hx => by
 simp only [putE, List.mem_append] at hx
 rcases hx with (h | h) | h
 ·exact .inl (List.mem_of_mem_take h)
 ·exact .inr h
 ·exact .inl (List.mem_of_mem_drop h)
theorem putE_fits {r : Rg} {xs ys : List Int} {off : Nat} (h : fits r xs) (h' : fits r ys) : fits r (putE xs off ys) := fits_of fun x hx => (putE_mem x hx).elim (fits_mem h x) (fits_mem h' x)
structure InOk (ls ds L D : List Int) (n : Nat) : Prop where
 ax : axOk ls ds
 pn : prodI ds = n
 n1 : 1 ≤ n ∧ n ≤ 4096
 nodup : L.Nodup
 sup : ∀ x ∈ ls, x ∈ L
 dl : D.length = L.length
 dbd : ∀ d ∈ D, 1 ≤ d ∧ d ≤ 8
 same : ∀ q (h : q < L.length), L[q] ∈ ls → D.getD q 0 = dimAt ⟨ls, ds, []⟩ L[q]
def inOff (ls ds L D : List Int) (i : Nat) : Nat := (dotI (L.map (strideL ls ds)) (digits D i)).toNat
namespace InOk
variable {ls ds L D : List Int} {n : Nat}
theorem idx (h : InOk ls ds L D n) (i : Nat) : idxOk ds (ls.map (atL L (digits D i))) := by
 have ha : axOk (⟨ls, ds, []⟩ : Ten).labels (⟨ls, ds, []⟩ : Ten).dims := h.ax
 refine ⟨by simp [h.ax.len], fun k hk => ?_⟩
 have hk' : k < ls.length := by have := h.ax.len; omega
 have hm := h.sup ls[k] (List.getElem_mem hk')
 obtain ⟨q, h1, h2, h3, h4⟩ := atL_mem (xs := digits D i) hm (by simp [digits_len, h.dl])
 have h5 := digits_bd D i (fun d hd => (h.dbd d hd).1) q (by rw [h.dl]; exact h1)
 have h7 : L[q] = ls[k] := by rw [List.getElem?_eq_getElem h1] at h3; simpa using h3
 have h6 : D.getD q 0 = ds.getD k 0 := by
  rw [h.same q h1 (by rw [h7]; exact List.getElem_mem hk'), getD_of hk, h7]
  exact dimAt_at (t := ⟨ls, ds, []⟩) ha hk' hk
 unfold idxAt
 have h8 : (ls.map (atL L (digits D i))).getD k 0 = atL L (digits D i) ls[k] := by rw [getD_of (by simpa using hk')]; simp
 rw [h8, h4, ← h6]
 exact h5
theorem off (h : InOk ls ds L D n) (i : Nat) : dotI (L.map (strideL ls ds)) (digits D i) = inOff ls ds L D i ∧ inOff ls ds L D i < n := by
 have h1 := off_labels h.ax.len (axOk_nodup h.ax) h.nodup h.sup (xs := digits D i) (by simp [digits_len, h.dl])
 have h2 := offs_bd _ _ _ h.ax (h.idx i)
 have h3 := h.pn
 unfold inOff
 rw [h1]
 omega
theorem cut (h : InOk ls ds L D n) {data : List Int} {wd : Nat} (hl : data.length = n * wd) (i : Nat) : inOff ls ds L D i * wd + wd ≤ data.length := by
 rw [hl]; exact mul_step (h.off i).2
end InOk
def dAt (L D : List Int) (x : Int) : Int := D.getD (place L x).toNat 0
def conL (a b : Ten) : List Int := joinL a.labels b.labels
def conK (a b : Ten) (keep : List Int) : List Int := (conL a b).filter (has keep)
def conD (a b : Ten) (keep : List Int) : List Int := (conK a b keep).map (dAt (conL a b) (joinD a b))
structure ConOk (r : Rg) (a b : Ten) (keep : List Int) (wd na nb n N : Nat) : Prop where
 ring : ringOk r = true
 w : width r = wd
 wb : 1 ≤ wd ∧ wd ≤ 6
 ja : joinOk a b = true
 la : a.data.length = na * wd
 lb : b.data.length = nb * wd
 fa : fits r a.data
 fb : fits r b.data
 ia : InOk a.labels a.dims (conL a b) (joinD a b) na
 ib : InOk b.labels b.dims (conL a b) (joinD a b) nb
 io : InOk (conK a b keep) (conD a b keep) (conL a b) (joinD a b) n
 pN : prodI (joinD a b) = N
 N1 : 1 ≤ N ∧ N ≤ 65536
section
variable {r : Rg} {a b : Ten} {keep : List Int} {wd na nb n N : Nat}
end
end Go.Proofs.Ytmkdphmjgfbjaaa
namespace Go.Proofs.Ytmkdphmjgfbjaaa
open Go.RowKit Go.Lift Plain
set_option maxRecDepth 100000
theorem zeroE_put {kk pp : Int} {wd : Nat} (h : 1 ≤ wd) (h4 : kk = 4) : iv (zeroE kk pp wd) = .d (.int pp) :: iv (List.drop 1 (List.replicate wd (0 : Int))) := by
 obtain ⟨w, rfl⟩ : ∃ w, wd = w + 1 := ⟨wd - 1, by omega⟩
 unfold zeroE
 rw [if_pos h4]
 rfl
theorem l02Zero_d {kk pp nn : Int} {wd : Nat} (hw : width ⟨kk, pp, nn⟩ = wd) (h1 : 1 ≤ wd ∧ wd ≤ 6) : Does Try.prog 58 [ringA kk pp nn] [] (.own 0 0 wd) [some ⟨1, true, iv (zeroE kk pp wd)⟩] := by
 have hz := zeroE_len kk pp wd
 (refine spec_of (by kernel_rfl) Try.func58 k_spec_l02Zero (fnOk (nb rfl) ?_); unfold C_spec_l02Zero)
 (simp only [Nat.reduceSub, List.length_cons, List.length_nil, Nat.reduceAdd, ch_init1, ch_init2, ch_init3, ch_init4, ch_init5, ch_init6, ch_init7, ch_init8]; try simp only [ch_rep]); (simp only [go_sem, seval, reduceCtorEq, List.replicate])
 (refine ti_call (l02Width_d kk pp nn) ?_ ?_ ?_; (focus (simp only [go_sem, seval, reduceCtorEq, hw]; done)); (first | rfl | (focus (simp only [go_sem]; done))))
 simp (disch := omega) only [go_sem, seval, reduceCtorEq, hw]
 refine And.intro ⟨by omega, by omega⟩ ?_
 by_cases h4 : kk = 4
 ·have c : (kk == 4) = true := by simp [h4]
  have e := zeroE_put (pp := pp) h1.1 h4
  have hlr : (List.replicate wd (0 : Int)).length = wd := List.length_replicate
  simp (disch := omega) only [go_sem, seval, reduceCtorEq, c]
  refine ⟨by omega, by rw [hlr]; omega, ?_⟩
  rw [e]
  (refine FnEnd.mk (nb rfl) rfl (of_decide_eq_true rfl) ?_ ?_ <;> try simp only [go_sem, seval, reduceCtorEq])
 ·have c : (kk == 4) = false := by simp [h4]
  have e : zeroE kk pp wd = List.replicate wd 0 := by rw [zeroE, if_neg h4]
  simp (disch := omega) only [go_sem, seval, reduceCtorEq, c, e]
  (refine FnEnd.mk (nb rfl) rfl (of_decide_eq_true rfl) ?_ ?_ <;> try simp only [go_sem, seval, reduceCtorEq])
theorem l05Zero_d {kk pp nn : Int} {wd n : Nat} {ls ds : List Int} (hw : width ⟨kk, pp, nn⟩ = wd) (h1 : 1 ≤ wd ∧ wd ≤ 6) (hls : ls.length ≤ 1048576) (hds : ds.length ≤ 1048576) (hd : ∀ d ∈ ds, 1 ≤ d ∧ d ≤ 100) (hn : prodI ds = n) (hn2 : n ≤ 4096) :
  Does Try.prog 51 [ringA kk pp nn, .d (ints ls), .d (ints ds)] [] (ownT 0 ⟨ls, ds, repE (zeroE kk pp wd) n⟩) (stoT ⟨ls, ds, repE (zeroE kk pp wd) n⟩) := by
 have hz := zeroE_len kk pp wd
 have hmn : min (prodI ds) 4097 = (n : Int) := by omega
 (refine spec_of (by kernel_rfl) Try.func51 k_spec_l05Zero (fnOk (nb rfl) ?_); unfold C_spec_l05Zero)
 (simp only [Nat.reduceSub, List.length_cons, List.length_nil, Nat.reduceAdd, ch_init1, ch_init2, ch_init3, ch_init4, ch_init5, ch_init6, ch_init7, ch_init8]; try simp only [ch_rep]); (simp only [go_sem, seval, reduceCtorEq, List.replicate])
 (refine ti_call (l05Ints_d (xs := ls) (by omega)) ?_ ?_ ?_; (focus (simp only [go_sem, seval, reduceCtorEq]; done)); (first | rfl | (focus (simp only [go_sem]; done))))
 simp only [go_sem, seval, reduceCtorEq]
 (refine ti_call (l05Ints_d (xs := ds) (by omega)) ?_ ?_ ?_; (focus (simp only [go_sem, seval, reduceCtorEq]; done)); (first | rfl | (focus (simp only [go_sem]; done))))
 simp only [go_sem, seval, reduceCtorEq]
 (refine ti_call (l05Product_d (ds := ds) (lim := 4096) (by omega) hd (by omega)) ?_ ?_ ?_; (focus (simp only [go_sem, seval, reduceCtorEq, hmn]; done)); (first | rfl | (focus (simp only [go_sem]; done))))
 simp only [go_sem, seval, reduceCtorEq, hmn]
 (refine wpN_lwk (Wk.nilS 4 2 1 _ _ _ rfl rfl) ?_; simp only [go_sem, seval, reduceCtorEq])
 have hr0 : repE (zeroE kk pp wd) 0 = [] := rfl
 refine wpN_lp (n) (mkB 27 67043328) (fun k => [(8, .d (.int ((n : Int) - k)))]) (fun k => [(4, [.own 2 0 ls.length, .own 3 0 ds.length, .own 5 0 (repE (zeroE kk pp wd) k).length]), (5, iv (repE (zeroE kk pp wd) k))]) (h1 := by first | (simp only [go_sem, seval, reduceCtorEq, nz, na, n1, hr0, iv_nil, Int.sub_zero]; first | done | rfl) | rfl) (h2 := by first | (simp only [go_sem, seval, reduceCtorEq, nz, na, n1, hr0, iv_nil, Int.sub_zero]; first | done | rfl) | rfl) (hr := fun k hk => ?_)
 unfold L0_spec_l05Zero
 have hrl := repE_len (zeroE kk pp wd) k
 have hkw : k * wd ≤ 4096 * 6 := Nat.mul_le_mul (by omega) h1.2
 rw [hz] at hrl
 by_cases hlt : k < n
 ·have d1 : (n : Int) - k > 0 := by omega
  have e8 : (n : Int) - k - 1 = (n : Int) - (k + 1) := by omega
  simp (disch := omega) only [go_sem, seval, reduceCtorEq, d1]
  (refine gi_call (l02Zero_d (kk := kk) (pp := pp) (nn := nn) hw h1) ?_ ?_ ?_; (focus (simp only [go_sem, seval, reduceCtorEq]; done)); (first | rfl | (focus (simp only [go_sem]; done))))
  have htz : List.take wd (zeroE kk pp wd) = zeroE kk pp wd := List.take_of_length_le (by omega)
  have hle : (wd ≤ wd) = True := by simp
  simp (disch := omega) only [go_sem, seval, reduceCtorEq, hz, htz, hle, if_true]
  (repeat (refine And.intro (by omega) ?_))
  have hrn : repE (zeroE kk pp wd) (k + 1) = repE (zeroE kk pp wd) k ++ zeroE kk pp wd := rfl
  (refine Next.drop (mkB 27 67043328) (by omega) (h1 := ?_) (h2 := ?_) <;> first | (simp only [go_sem, seval, reduceCtorEq, nz, na, n1, hrn, e8, List.length_append, hz]; first | done | rfl) | rfl | skip)
 ·have d1 : ¬ (n : Int) - k > 0 := by omega
  obtain rfl : k = n := by omega
  simp (disch := omega) only [go_sem, seval, reduceCtorEq, d1]
  (refine FnEnd.mk (nb rfl) rfl (of_decide_eq_true rfl) ?_ ?_ <;> try simp only [go_sem, seval, reduceCtorEq])
end Go.Proofs.Ytmkdphmjgfbjaaa
