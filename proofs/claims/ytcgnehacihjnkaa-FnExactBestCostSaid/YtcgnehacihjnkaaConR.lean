/-
  Contracts: labels fused. No condition.
-/
import Derived.Test.YtcgnehacihjnkaaMgBestCostA
import Derived.Test.YtcgnehacihjnkaaCoD
namespace Go.Proofs.Ytcgnehacihjnkaa
open Go.RowKit Go.Lift Plain
set_option linter.unusedSimpArgs false
set_option linter.unusedVariables false
set_option maxRecDepth 100000

def fuL (t : Ten) (L : List Int) (x : Int) : List Int := wol t.labels L ++ [x]
def fuD (t : Ten) (L : List Int) : List Int := permD t (wol t.labels L) ++ [prodI (permD t L)]
structure FuOk (r : Rg) (t : Ten) (L : List Int) (x : Int) (wd n : Nat) : Prop where
  w : width r = wd
  p : PermOk t (wol t.labels L ++ L) wd n
  ok : ∀ x, tensorOk r (fuL t L x) (fuD t L) (permR wd t (wol t.labels L ++ L)).data = decide (tsize (fuL t L x) (fuD t L) ≠ -1)
  pl : prodI (permD t L) ≤ 4096 ∧ 1 ≤ prodI (permD t L)
  dl : ∀ d ∈ permD t L, 1 ≤ d ∧ d ≤ 8
  len : (wol t.labels L).length ≤ 12 ∧ L.length ≤ 12
  dle : ((permR wd t (wol t.labels L ++ L)).data.length) ≤ 24576
end Go.Proofs.Ytcgnehacihjnkaa

/-
  Plain lists: sums of elements, tensors joined element by element. No condition.
-/
namespace Go.Proofs.Ytcgnehacihjnkaa
open Go.RowKit Go.Lift Plain
set_option linter.unusedSimpArgs false
set_option linter.unusedVariables false

def add1 (r : Rg) (a b : Int) : Int :=
  if r.k = 1 ∨ r.k = 5 then max a b else if r.k = 3 then min (a + b) r.p else if r.k = 4 then min a b else if r.k = 6 then orI a b else (a + b).tmod r.p
def addE (r : Rg) (x y : List Int) : List Int := List.zipWith (add1 r) x y
theorem addE_len {r : Rg} {x y : List Int} {n : Nat} (h : x.length = n) (h' : y.length = n) : (addE r x y).length = n := by simp [addE, h, h']
theorem addE_get {r : Rg} {x y : List Int} {k : Nat} (h : k < x.length) (h' : k < y.length) : (addE r x y)[k]? = some (add1 r x[k] y[k]) := by rw [addE, List.getElem?_zipWith, List.getElem?_eq_getElem h, List.getElem?_eq_getElem h']
/-! ### Joined element by element -/
def cutE (x : List Int) (wd k : Nat) : List Int := (x.drop (k * wd)).take wd
def opP (f : List Int → List Int → List Int) (x y : List Int) (wd : Nat) : Nat → List Int
  | 0 => []
  | k + 1 => opP f x y wd k ++ f (cutE x wd k) (cutE y wd k)
def opTo (f : List Int → List Int → List Int) (x y z : List Int) (wd k : Nat) : List Int := opP f x y wd k ++ z.drop (k * wd)
section
variable {f : List Int → List Int → List Int} {x y z : List Int} {wd n k : Nat}
theorem cutE_len (h : x.length = n * wd) (hk : k < n) : (cutE x wd k).length = wd := by
  have := mul_step (wd := wd) hk
  unfold cutE
  rw [List.length_take, List.length_drop]
  omega
theorem opP_len (hf : ∀ k, k < n → (f (cutE x wd k) (cutE y wd k)).length = wd) : ∀ k, k ≤ n → (opP f x y wd k).length = k * wd
  | 0, _ => by simp [opP]
  | k + 1, h => by
    rw [opP, List.length_append, opP_len hf k (by omega), hf k (by omega), Nat.add_mul, Nat.one_mul]
theorem opTo_zero : opTo f x y z wd 0 = z := by simp [opTo, opP]
theorem opTo_all (h : z.length = n * wd) : opTo f x y z wd n = opP f x y wd n := by simp [opTo, h]
theorem opTo_len (hf : ∀ k, k < n → (f (cutE x wd k) (cutE y wd k)).length = wd) (h : z.length = n * wd) (hk : k ≤ n) : (opTo f x y z wd k).length = n * wd := by
  have := Nat.mul_le_mul_right wd hk
  rw [opTo, List.length_append, opP_len hf k hk, List.length_drop]
  omega
theorem opTo_put (hf : ∀ k, k < n → (f (cutE x wd k) (cutE y wd k)).length = wd) (hk : k < n) : putE (opTo f x y z wd k) (k * wd) (f (cutE x wd k) (cutE y wd k)) = opTo f x y z wd (k + 1) := by
  have hl := opP_len hf k (by omega)
  unfold putE opTo
  rw [List.take_append_of_le_length (by omega), List.take_of_length_le (by omega), hf k hk, List.drop_append, List.drop_of_length_le (by omega), List.nil_append, opP, List.drop_drop, Nat.add_mul, Nat.one_mul]
  congr 2
  omega
end

/-! ### Aligned -/
def alT (r : Rg) (a b : Ten) : Ten := permR (width r).toNat b a.labels
structure AlOk (r : Rg) (a b : Ten) (wd n : Nat) : Prop where
  ring : ringOk r = true
  w : width r = wd
  wb : 1 ≤ wd ∧ wd ≤ 6
  pa : prodI a.dims = n
  n1 : 1 ≤ n ∧ n ≤ 4096
  ax : axOk a.labels a.dims
  la : a.data.length = n * wd
  lb : (alT r a b).data.length = n * wd
  fa : fits r a.data
  fb : fits r (alT r a b).data
  dims : permD b a.labels = a.dims
theorem fits_cutE {r : Rg} {x : List Int} (h : fits r x) (wd k : Nat) : fits r (cutE x wd k) := fits_cut h (k * wd) wd
namespace AlOk
variable {r : Rg} {a b : Ten} {wd n : Nat}
theorem add (h : AlOk r a b wd n) : ∀ k, k < n → (addE r (cutE a.data wd k) (cutE (alT r a b).data wd k)).length = wd := fun k hk => addE_len (cutE_len h.la hk) (cutE_len h.lb hk)
theorem mul (h : AlOk r a b wd n) : ∀ k, k < n → (mulE r (cutE a.data wd k) (cutE (alT r a b).data wd k)).length = wd := fun k hk => (mulE_facts h.ring h.w (fits_cutE h.fa wd k) (fits_cutE h.fb wd k) (cutE_len h.la hk) (cutE_len h.lb hk)).1
end AlOk
end Go.Proofs.Ytcgnehacihjnkaa

/-
  Plain lists: the contraction of two tensors. No condition.
-/
namespace Go.Proofs.Ytcgnehacihjnkaa
open Plain
set_option linter.unusedSimpArgs false
set_option linter.unusedVariables false

/-! ### Products and sums fit the ring -/
/-! ### A tensor's axes among a list of labels -/
structure InOk (ls ds L D : List Int) (n : Nat) : Prop where
  ax : axOk ls ds
  pn : prodI ds = n
  n1 : 1 ≤ n ∧ n ≤ 4096
  nodup : L.Nodup
  sup : ∀ x ∈ ls, x ∈ L
  dl : D.length = L.length
  dbd : ∀ d ∈ D, 1 ≤ d ∧ d ≤ 8
  same : ∀ q (h : q < L.length), L[q] ∈ ls → D.getD q 0 = dimAt ⟨ls, ds, []⟩ L[q]
def inOff (ls ds L D : List Int) (i : Nat) : Nat := (dotI (L.map (strideL ls ds)) (digits D i)).toNat
namespace InOk
variable {ls ds L D : List Int} {n : Nat}
theorem idx (h : InOk ls ds L D n) (i : Nat) : idxOk ds (ls.map (atL L (digits D i))) := by
  have ha : axOk (⟨ls, ds, []⟩ : Ten).labels (⟨ls, ds, []⟩ : Ten).dims := h.ax
  refine ⟨by simp [h.ax.len], fun k hk => ?_⟩
  have hk' : k < ls.length := by have := h.ax.len; omega
  have hm := h.sup ls[k] (List.getElem_mem hk')
  obtain ⟨q, h1, h2, h3, h4⟩ := atL_mem (xs := digits D i) hm (by simp [digits_len, h.dl])
  have h5 := digits_bd D i (fun d hd => (h.dbd d hd).1) q (by rw [h.dl]; exact h1)
  have h7 : L[q] = ls[k] := by rw [List.getElem?_eq_getElem h1] at h3; simpa using h3
  have h6 : D.getD q 0 = ds.getD k 0 := by
    rw [h.same q h1 (by rw [h7]; exact List.getElem_mem hk'), getD_of hk, h7]
    exact dimAt_at (t := ⟨ls, ds, []⟩) ha hk' hk
  unfold idxAt
  have h8 : (ls.map (atL L (digits D i))).getD k 0 = atL L (digits D i) ls[k] := by rw [getD_of (by simpa using hk')]; simp
  rw [h8, h4, ← h6]
  exact h5
theorem off (h : InOk ls ds L D n) (i : Nat) : dotI (L.map (strideL ls ds)) (digits D i) = inOff ls ds L D i ∧ inOff ls ds L D i < n := by
  have h1 := off_labels h.ax.len (axOk_nodup h.ax) h.nodup h.sup (xs := digits D i) (by simp [digits_len, h.dl])
  have h2 := offs_bd _ _ _ h.ax (h.idx i)
  have h3 := h.pn
  unfold inOff
  rw [h1]
  omega
theorem cut (h : InOk ls ds L D n) {data : List Int} {wd : Nat} (hl : data.length = n * wd) (i : Nat) : inOff ls ds L D i * wd + wd ≤ data.length := by
  rw [hl]; exact mul_step (h.off i).2
end InOk

/-! ### The contraction -/
def dAt (L D : List Int) (x : Int) : Int := D.getD (place L x).toNat 0
def conL (a b : Ten) : List Int := joinL a.labels b.labels
def conK (a b : Ten) (keep : List Int) : List Int := (conL a b).filter (has keep)
def conD (a b : Ten) (keep : List Int) : List Int := (conK a b keep).map (dAt (conL a b) (joinD a b))
def conE (r : Rg) (wd : Nat) (a b : Ten) (i : Nat) : List Int := mulE r (cutE a.data wd (inOff a.labels a.dims (conL a b) (joinD a b) i)) (cutE b.data wd (inOff b.labels b.dims (conL a b) (joinD a b) i))
structure ConOk (r : Rg) (a b : Ten) (keep : List Int) (wd na nb n N : Nat) : Prop where
  ring : ringOk r = true
  w : width r = wd
  wb : 1 ≤ wd ∧ wd ≤ 6
  ja : joinOk a b = true
  la : a.data.length = na * wd
  lb : b.data.length = nb * wd
  fa : fits r a.data
  fb : fits r b.data
  ia : InOk a.labels a.dims (conL a b) (joinD a b) na
  ib : InOk b.labels b.dims (conL a b) (joinD a b) nb
  io : InOk (conK a b keep) (conD a b keep) (conL a b) (joinD a b) n
  pN : prodI (joinD a b) = N
  N1 : 1 ≤ N ∧ N ≤ 65536
section
variable {r : Rg} {a b : Ten} {keep : List Int} {wd na nb n N : Nat}
theorem ConOk.ca (h : ConOk r a b keep wd na nb n N) (i : Nat) : (cutE a.data wd (inOff a.labels a.dims (conL a b) (joinD a b) i)).length = wd := cutE_len h.la (h.ia.off i).2
theorem ConOk.cb (h : ConOk r a b keep wd na nb n N) (i : Nat) : (cutE b.data wd (inOff b.labels b.dims (conL a b) (joinD a b) i)).length = wd := cutE_len h.lb (h.ib.off i).2
theorem ConOk.el (h : ConOk r a b keep wd na nb n N) (i : Nat) : (conE r wd a b i).length = wd := (mulE_facts h.ring h.w (fits_cutE h.fa wd _) (fits_cutE h.fb wd _) (h.ca i) (h.cb i)).1
end
end Go.Proofs.Ytcgnehacihjnkaa
