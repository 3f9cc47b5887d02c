/-
  Plain lists: the contraction of two tensors. No condition.
-/
import Derived.Test.YtcgnehacihjnkaaCoD
import Derived.Test.YtcgnehacihjnkaaPlC
import Derived.Test.YtcgnehacihjnkaaCoS
namespace Go.Proofs.Ytcgnehacihjnkaa
open Plain
set_option linter.unusedSimpArgs false
set_option linter.unusedVariables false

/-! ### Products and sums fit the ring -/
/-! ### A tensor's axes among a list of labels -/
structure InOk (ls ds L D : List Int) (n : Nat) : Prop where
  ax : axOk ls ds
  pn : prodI ds = n
  n1 : 1 ≤ n ∧ n ≤ 4096
  nodup : L.Nodup
  sup : ∀ x ∈ ls, x ∈ L
  dl : D.length = L.length
  dbd : ∀ d ∈ D, 1 ≤ d ∧ d ≤ 8
  same : ∀ q (h : q < L.length), L[q] ∈ ls → D.getD q 0 = dimAt ⟨ls, ds, []⟩ L[q]
def inOff (ls ds L D : List Int) (i : Nat) : Nat := (dotI (L.map (strideL ls ds)) (digits D i)).toNat
namespace InOk
variable {ls ds L D : List Int} {n : Nat}
theorem idx (h : InOk ls ds L D n) (i : Nat) : idxOk ds (ls.map (atL L (digits D i))) := by
  have ha : axOk (⟨ls, ds, []⟩ : Ten).labels (⟨ls, ds, []⟩ : Ten).dims := h.ax
  refine ⟨by simp [h.ax.len], fun k hk => ?_⟩
  have hk' : k < ls.length := by have := h.ax.len; omega
  have hm := h.sup ls[k] (List.getElem_mem hk')
  obtain ⟨q, h1, h2, h3, h4⟩ := atL_mem (xs := digits D i) hm (by simp [digits_len, h.dl])
  have h5 := digits_bd D i (fun d hd => (h.dbd d hd).1) q (by rw [h.dl]; exact h1)
  have h7 : L[q] = ls[k] := by rw [List.getElem?_eq_getElem h1] at h3; simpa using h3
  have h6 : D.getD q 0 = ds.getD k 0 := by
    rw [h.same q h1 (by rw [h7]; exact List.getElem_mem hk'), getD_of hk, h7]
    exact dimAt_at (t := ⟨ls, ds, []⟩) ha hk' hk
  unfold idxAt
  have h8 : (ls.map (atL L (digits D i))).getD k 0 = atL L (digits D i) ls[k] := by rw [getD_of (by simpa using hk')]; simp
  rw [h8, h4, ← h6]
  exact h5
theorem off (h : InOk ls ds L D n) (i : Nat) : dotI (L.map (strideL ls ds)) (digits D i) = inOff ls ds L D i ∧ inOff ls ds L D i < n := by
  have h1 := off_labels h.ax.len (axOk_nodup h.ax) h.nodup h.sup (xs := digits D i) (by simp [digits_len, h.dl])
  have h2 := offs_bd _ _ _ h.ax (h.idx i)
  have h3 := h.pn
  unfold inOff
  rw [h1]
  omega
theorem cut (h : InOk ls ds L D n) {data : List Int} {wd : Nat} (hl : data.length = n * wd) (i : Nat) : inOff ls ds L D i * wd + wd ≤ data.length := by
  rw [hl]; exact mul_step (h.off i).2
end InOk

/-! ### The contraction -/
/-- The dimension that stands beside a label. -/
def dAt (L D : List Int) (x : Int) : Int := D.getD (place L x).toNat 0
def conL (a b : Ten) : List Int := joinL a.labels b.labels
def conK (a b : Ten) (keep : List Int) : List Int := (conL a b).filter (has keep)
def conD (a b : Ten) (keep : List Int) : List Int := (conK a b keep).map (dAt (conL a b) (joinD a b))
def conE (r : Rg) (wd : Nat) (a b : Ten) (i : Nat) : List Int := mulE r (cutE a.data wd (inOff a.labels a.dims (conL a b) (joinD a b) i)) (cutE b.data wd (inOff b.labels b.dims (conL a b) (joinD a b) i))
/-- What is known of two tensors that are contracted. -/
structure ConOk (r : Rg) (a b : Ten) (keep : List Int) (wd na nb n N : Nat) : Prop where
  ring : ringOk r = true
  w : width r = wd
  wb : 1 ≤ wd ∧ wd ≤ 6
  ja : joinOk a b = true
  la : a.data.length = na * wd
  lb : b.data.length = nb * wd
  fa : fits r a.data
  fb : fits r b.data
  ia : InOk a.labels a.dims (conL a b) (joinD a b) na
  ib : InOk b.labels b.dims (conL a b) (joinD a b) nb
  io : InOk (conK a b keep) (conD a b keep) (conL a b) (joinD a b) n
  pN : prodI (joinD a b) = N
  N1 : 1 ≤ N ∧ N ≤ 65536
section
variable {r : Rg} {a b : Ten} {keep : List Int} {wd na nb n N : Nat}
theorem ConOk.ca (h : ConOk r a b keep wd na nb n N) (i : Nat) : (cutE a.data wd (inOff a.labels a.dims (conL a b) (joinD a b) i)).length = wd := cutE_len h.la (h.ia.off i).2
theorem ConOk.cb (h : ConOk r a b keep wd na nb n N) (i : Nat) : (cutE b.data wd (inOff b.labels b.dims (conL a b) (joinD a b) i)).length = wd := cutE_len h.lb (h.ib.off i).2
theorem ConOk.el (h : ConOk r a b keep wd na nb n N) (i : Nat) : (conE r wd a b i).length = wd := (mulE_facts h.ring h.w (fits_cutE h.fa wd _) (fits_cutE h.fb wd _) (h.ca i) (h.cb i)).1
end
end Go.Proofs.Ytcgnehacihjnkaa
