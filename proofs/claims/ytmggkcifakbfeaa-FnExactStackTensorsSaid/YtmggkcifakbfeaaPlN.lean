/-
  Plain lists: the dimensions of a network's labels; valid networks. No condition.
-/
import Derived.Test.YtmggkcifakbfeaaNetA
import Derived.Test.YtmggkcifakbfeaaCoA
namespace Go.Proofs.Ytmggkcifakbfeaa
open Go.RowKit Go.Lift Plain
set_option linter.unusedSimpArgs false
set_option linter.unusedVariables false

def dimN : List Ten → Int → Int
  | [], _ => 0
  | t :: l, x => if x ∈ t.labels then dimAt t x else dimN l x
def tenOks (r : Rg) (ts : List Ten) : Prop := ∀ t ∈ ts, tensorOk r t.labels t.dims t.data = true
def axOks (ts : List Ten) : Prop := ∀ t ∈ ts, axOk t.labels t.dims
theorem tenOks.ax {r : Rg} {ts : List Ten} (h : tenOks r ts) : axOks ts := fun t ht => (tensorOk_facts (h t ht)).2.1
theorem axOks.take {ts : List Ten} (h : axOks ts) (k : Nat) : axOks (ts.take k) := fun t ht => h t (List.mem_of_mem_take ht)
def consT (ts : List Ten) (k : Nat) : Prop := ∀ x, (hk : k < ts.length) → x ∈ ts[k].labels → dimN (ts.take k) x = 0 ∨ dimN (ts.take k) x = dimAt ts[k] x
def consB (ts : List Ten) : Prop := ∀ k, k < ts.length → consT ts k
open Classical in
noncomputable def netOk (N : Net) : Bool := ringOk N.rg && decide (N.ts.length ≤ 12) && decide (tenOks N.rg N.ts) && decide (consB N.ts) && decide (tsize N.os (N.os.map (dimN N.ts)) ≠ -1)

/-! ### The table of the dimensions -/
def repI (n : Nat) (x : Int) : List Int := List.replicate n x
theorem repI_len (n : Nat) (x : Int) : (repI n x).length = n := by simp [repI]
theorem reps_int (n : Nat) (x : Int) : reps n (.d (.int x)) = iv (repI n x) := by simp [reps, repI, iv]
end Go.Proofs.Ytmggkcifakbfeaa
