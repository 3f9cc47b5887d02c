/-
  Plain lists: sums of elements, tensors joined element by element. No condition.
-/
import Derived.Test.YtmggkcifakbfeaaPlB
import Derived.Test.YtmggkcifakbfeaaConR
namespace Go.Proofs.Ytmggkcifakbfeaa
open Go.RowKit Go.Lift Plain
set_option linter.unusedSimpArgs false
set_option linter.unusedVariables false

def add1 (r : Rg) (a b : Int) : Int :=
  if r.k = 1 ∨ r.k = 5 then max a b else if r.k = 3 then min (a + b) r.p else if r.k = 4 then min a b else if r.k = 6 then orI a b else (a + b).tmod r.p
def addE (r : Rg) (x y : List Int) : List Int := List.zipWith (add1 r) x y
theorem addE_len {r : Rg} {x y : List Int} {n : Nat} (h : x.length = n) (h' : y.length = n) : (addE r x y).length = n := by simp [addE, h, h']
/-! ### Joined element by element -/
def cutE (x : List Int) (wd k : Nat) : List Int := (x.drop (k * wd)).take wd
section
variable {f : List Int → List Int → List Int} {x y z : List Int} {wd n k : Nat}
theorem cutE_len (h : x.length = n * wd) (hk : k < n) : (cutE x wd k).length = wd := by
  have := mul_step (wd := wd) hk
  unfold cutE
  rw [List.length_take, List.length_drop]
  omega
end

/-! ### Aligned -/
theorem sameB_symm {ls L : List Int} (hn : ls.Nodup) (h : sameB ls L = true) : sameB L ls = true := by
  obtain ⟨h1, h2⟩ := of_decide_eq_true h
  have hL : L.Nodup := nodup_of_fresh fun k hk => (h2 k hk).2
  have hs : ∀ x ∈ L, x ∈ ls := fun x hx => by
    obtain ⟨k, hk, rfl⟩ := List.mem_iff_getElem.1 hx
    exact (h2 k hk).1
  exact decide_eq_true ⟨h1.symm, fun k hk => ⟨sub_back hL hs (by omega) _ (List.getElem_mem hk), fresh_of hn hk⟩⟩
def alS (r : Rg) (a b : Ten) : Bool := tensorOk r a.labels a.dims a.data && tensorOk r b.labels b.dims b.data && sameB a.labels b.labels
def alB (r : Rg) (a b : Ten) : Bool := alS r a b && decide (permD b a.labels = a.dims)
def alT (r : Rg) (a b : Ten) : Ten := permR (width r).toNat b a.labels
structure AlOk (r : Rg) (a b : Ten) (wd n : Nat) : Prop where
  ring : ringOk r = true
  w : width r = wd
  wb : 1 ≤ wd ∧ wd ≤ 6
  pa : prodI a.dims = n
  n1 : 1 ≤ n ∧ n ≤ 4096
  ax : axOk a.labels a.dims
  la : a.data.length = n * wd
  lb : (alT r a b).data.length = n * wd
  fa : fits r a.data
  fb : fits r (alT r a b).data
  dims : permD b a.labels = a.dims
theorem alOk_of {r : Rg} {a b : Ten} (h : alB r a b = true) : ∃ wd n : Nat, AlOk r a b wd n := by
  simp only [alB, alS, Bool.and_eq_true, decide_eq_true_eq] at h
  obtain ⟨⟨⟨ha, hb⟩, hs⟩, hd⟩ := h
  obtain ⟨wd, n, e1, e2, e3, e4, e5, e6, e7, e8, e9, e10⟩ := ten_facts ha
  obtain ⟨wd', n', f1, f2, hp⟩ := mkPerm hb (sameB_symm (axOk_nodup e10) hs)
  have hww : wd' = wd := by omega
  subst hww
  have hal : alT r a b = permR wd' b a.labels := by unfold alT; rw [f1]; rfl
  have h8 : fits r b.data := (ten_facts hb).choose_spec.choose_spec.2.2.2.2.2.2.2.1
  refine ⟨wd', n, e9, e1, ⟨e3, e4⟩, e2, ⟨e5, e6⟩, e10, e7, ?_, e8, ?_, hd⟩
  · have h1 := permR_dlen hp
    rw [hd, e2] at h1
    rw [hal]
    have : ((permR wd' b a.labels).data.length : Int) = (n * wd' : Nat) := by rw [h1]; push_cast; rfl
    omega
  · rw [hal]
    exact permR_fits (n := n) h8
theorem fits_cutE {r : Rg} {x : List Int} (h : fits r x) (wd k : Nat) : fits r (cutE x wd k) := fits_cut h (k * wd) wd
namespace AlOk
variable {r : Rg} {a b : Ten} {wd n : Nat}
theorem add (h : AlOk r a b wd n) : ∀ k, k < n → (addE r (cutE a.data wd k) (cutE (alT r a b).data wd k)).length = wd := fun k hk => addE_len (cutE_len h.la hk) (cutE_len h.lb hk)
theorem mul (h : AlOk r a b wd n) : ∀ k, k < n → (mulE r (cutE a.data wd k) (cutE (alT r a b).data wd k)).length = wd := fun k hk => (mulE_facts h.ring h.w (fits_cutE h.fa wd k) (fits_cutE h.fb wd k) (cutE_len h.la hk) (cutE_len h.lb hk)).1
end AlOk
end Go.Proofs.Ytmggkcifakbfeaa
