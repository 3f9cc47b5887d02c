/-
  Plain lists: sums of elements, tensors joined element by element. No condition.
-/
import Derived.Test.YtcgnehacihjnkaaPlB
import Derived.Test.YtcgnehacihjnkaaConR
namespace Go.Proofs.Ytcgnehacihjnkaa
open Go.RowKit Go.Lift Plain
set_option linter.unusedSimpArgs false
set_option linter.unusedVariables false

def add1 (r : Rg) (a b : Int) : Int :=
  if r.k = 1 ∨ r.k = 5 then max a b else if r.k = 3 then min (a + b) r.p else if r.k = 4 then min a b else if r.k = 6 then orI a b else (a + b).tmod r.p
def addE (r : Rg) (x y : List Int) : List Int := List.zipWith (add1 r) x y
theorem addE_len {r : Rg} {x y : List Int} {n : Nat} (h : x.length = n) (h' : y.length = n) : (addE r x y).length = n := by simp [addE, h, h']
theorem addE_get {r : Rg} {x y : List Int} {k : Nat} (h : k < x.length) (h' : k < y.length) : (addE r x y)[k]? = some (add1 r x[k] y[k]) := by rw [addE, List.getElem?_zipWith, List.getElem?_eq_getElem h, List.getElem?_eq_getElem h']
/-! ### Joined element by element -/
def cutE (x : List Int) (wd k : Nat) : List Int := (x.drop (k * wd)).take wd
def opP (f : List Int → List Int → List Int) (x y : List Int) (wd : Nat) : Nat → List Int
  | 0 => []
  | k + 1 => opP f x y wd k ++ f (cutE x wd k) (cutE y wd k)
/-- Behind k elements; the rest is that of z. -/
def opTo (f : List Int → List Int → List Int) (x y z : List Int) (wd k : Nat) : List Int := opP f x y wd k ++ z.drop (k * wd)
section
variable {f : List Int → List Int → List Int} {x y z : List Int} {wd n k : Nat}
theorem cutE_len (h : x.length = n * wd) (hk : k < n) : (cutE x wd k).length = wd := by
  have := mul_step (wd := wd) hk
  unfold cutE
  rw [List.length_take, List.length_drop]
  omega
theorem opP_len (hf : ∀ k, k < n → (f (cutE x wd k) (cutE y wd k)).length = wd) : ∀ k, k ≤ n → (opP f x y wd k).length = k * wd
  | 0, _ => by simp [opP]
  | k + 1, h => by
    rw [opP, List.length_append, opP_len hf k (by omega), hf k (by omega), Nat.add_mul, Nat.one_mul]
theorem opTo_zero : opTo f x y z wd 0 = z := by simp [opTo, opP]
theorem opTo_all (h : z.length = n * wd) : opTo f x y z wd n = opP f x y wd n := by simp [opTo, h]
theorem opTo_len (hf : ∀ k, k < n → (f (cutE x wd k) (cutE y wd k)).length = wd) (h : z.length = n * wd) (hk : k ≤ n) : (opTo f x y z wd k).length = n * wd := by
  have := Nat.mul_le_mul_right wd hk
  rw [opTo, List.length_append, opP_len hf k hk, List.length_drop]
  omega
theorem opTo_put (hf : ∀ k, k < n → (f (cutE x wd k) (cutE y wd k)).length = wd) (hk : k < n) : putE (opTo f x y z wd k) (k * wd) (f (cutE x wd k) (cutE y wd k)) = opTo f x y z wd (k + 1) := by
  have hl := opP_len hf k (by omega)
  unfold putE opTo
  rw [List.take_append_of_le_length (by omega), List.take_of_length_le (by omega), hf k hk, List.drop_append, List.drop_of_length_le (by omega), List.nil_append, opP, List.drop_drop, Nat.add_mul, Nat.one_mul]
  congr 2
  omega
end

/-! ### Aligned -/
/-- b, with its axes in the order of a's. -/
def alT (r : Rg) (a b : Ten) : Ten := permR (width r).toNat b a.labels
structure AlOk (r : Rg) (a b : Ten) (wd n : Nat) : Prop where
  ring : ringOk r = true
  w : width r = wd
  wb : 1 ≤ wd ∧ wd ≤ 6
  pa : prodI a.dims = n
  n1 : 1 ≤ n ∧ n ≤ 4096
  ax : axOk a.labels a.dims
  la : a.data.length = n * wd
  lb : (alT r a b).data.length = n * wd
  fa : fits r a.data
  fb : fits r (alT r a b).data
  dims : permD b a.labels = a.dims
theorem fits_cutE {r : Rg} {x : List Int} (h : fits r x) (wd k : Nat) : fits r (cutE x wd k) := fits_cut h (k * wd) wd
namespace AlOk
variable {r : Rg} {a b : Ten} {wd n : Nat}
theorem add (h : AlOk r a b wd n) : ∀ k, k < n → (addE r (cutE a.data wd k) (cutE (alT r a b).data wd k)).length = wd := fun k hk => addE_len (cutE_len h.la hk) (cutE_len h.lb hk)
theorem mul (h : AlOk r a b wd n) : ∀ k, k < n → (mulE r (cutE a.data wd k) (cutE (alT r a b).data wd k)).length = wd := fun k hk => (mulE_facts h.ring h.w (fits_cutE h.fa wd k) (fits_cutE h.fb wd k) (cutE_len h.la hk) (cutE_len h.lb hk)).1
end AlOk
end Go.Proofs.Ytcgnehacihjnkaa
