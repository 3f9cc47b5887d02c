/-
  Contracts: labels fused. No condition.
-/
import Derived.Test.YtjncdanegoileaaMgGreedyOrderA
import Derived.Test.YtjncdanegoileaaConM
import Derived.Test.YtjncdanegoileaaPlB
namespace Go.Proofs.Ytjncdanegoileaa
open Go.RowKit Go.Lift Plain
set_option linter.unusedSimpArgs false
set_option linter.unusedVariables false
set_option maxRecDepth 100000

def fuL (t : Ten) (L : List Int) (x : Int) : List Int := wol t.labels L ++ [x]
def fuD (t : Ten) (L : List Int) : List Int := permD t (wol t.labels L) ++ [prodI (permD t L)]
structure FuOk (r : Rg) (t : Ten) (L : List Int) (x : Int) (wd n : Nat) : Prop where
  w : width r = wd
  p : PermOk t (wol t.labels L ++ L) wd n
  ok : ∀ x, tensorOk r (fuL t L x) (fuD t L) (permR wd t (wol t.labels L ++ L)).data = decide (tsize (fuL t L x) (fuD t L) ≠ -1)
  pl : prodI (permD t L) ≤ 4096 ∧ 1 ≤ prodI (permD t L)
  dl : ∀ d ∈ permD t L, 1 ≤ d ∧ d ≤ 8
  len : (wol t.labels L).length ≤ 12 ∧ L.length ≤ 12
  dle : ((permR wd t (wol t.labels L ++ L)).data.length) ≤ 24576
end Go.Proofs.Ytjncdanegoileaa

/-
  Plain lists: sums of elements, tensors joined element by element. No condition.
-/
namespace Go.Proofs.Ytjncdanegoileaa
open Go.RowKit Go.Lift Plain
set_option linter.unusedSimpArgs false
set_option linter.unusedVariables false

def add1 (r : Rg) (a b : Int) : Int :=
  if r.k = 1 ∨ r.k = 5 then max a b else if r.k = 3 then min (a + b) r.p else if r.k = 4 then min a b else if r.k = 6 then orI a b else (a + b).tmod r.p
def addE (r : Rg) (x y : List Int) : List Int := List.zipWith (add1 r) x y
theorem addE_len {r : Rg} {x y : List Int} {n : Nat} (h : x.length = n) (h' : y.length = n) : (addE r x y).length = n := by simp [addE, h, h']
/-! ### Joined element by element -/
def cutE (x : List Int) (wd k : Nat) : List Int := (x.drop (k * wd)).take wd
section
variable {f : List Int → List Int → List Int} {x y z : List Int} {wd n k : Nat}
theorem cutE_len (h : x.length = n * wd) (hk : k < n) : (cutE x wd k).length = wd := by
  have := mul_step (wd := wd) hk
  unfold cutE
  rw [List.length_take, List.length_drop]
  omega
end

/-! ### Aligned -/
/-- b, with its axes in the order of a's. -/
def alT (r : Rg) (a b : Ten) : Ten := permR (width r).toNat b a.labels
structure AlOk (r : Rg) (a b : Ten) (wd n : Nat) : Prop where
  ring : ringOk r = true
  w : width r = wd
  wb : 1 ≤ wd ∧ wd ≤ 6
  pa : prodI a.dims = n
  n1 : 1 ≤ n ∧ n ≤ 4096
  ax : axOk a.labels a.dims
  la : a.data.length = n * wd
  lb : (alT r a b).data.length = n * wd
  fa : fits r a.data
  fb : fits r (alT r a b).data
  dims : permD b a.labels = a.dims
theorem fits_cutE {r : Rg} {x : List Int} (h : fits r x) (wd k : Nat) : fits r (cutE x wd k) := fits_cut h (k * wd) wd
namespace AlOk
variable {r : Rg} {a b : Ten} {wd n : Nat}
theorem add (h : AlOk r a b wd n) : ∀ k, k < n → (addE r (cutE a.data wd k) (cutE (alT r a b).data wd k)).length = wd := fun k hk => addE_len (cutE_len h.la hk) (cutE_len h.lb hk)
theorem mul (h : AlOk r a b wd n) : ∀ k, k < n → (mulE r (cutE a.data wd k) (cutE (alT r a b).data wd k)).length = wd := fun k hk => (mulE_facts h.ring h.w (fits_cutE h.fa wd k) (fits_cutE h.fb wd k) (cutE_len h.la hk) (cutE_len h.lb hk)).1
end AlOk
end Go.Proofs.Ytjncdanegoileaa

/-
  Contracts: sums of elements, tensors aligned and joined. No condition.
-/
namespace Go.Proofs.Ytjncdanegoileaa
open Go.RowKit Go.Lift Plain
set_option linter.unusedSimpArgs false
set_option linter.unusedVariables false
set_option maxRecDepth 100000

/-! ### Sums -/
/-! ### Aligned -/
/-! ### Joined element by element -/
end Go.Proofs.Ytjncdanegoileaa
