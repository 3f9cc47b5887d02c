/-
  Plain lists: sums of elements, tensors joined element by element. No condition.
-/
import Derived.Test.YtcgnehacihjnkaaPlB
import Derived.Test.YtcgnehacihjnkaaConR
namespace Go.Proofs.Ytcgnehacihjnkaa
open Go.RowKit Go.Lift Plain
set_option linter.unusedSimpArgs false
set_option linter.unusedVariables false

def add1 (r : Rg) (a b : Int) : Int :=
  if r.k = 1 ∨ r.k = 5 then max a b else if r.k = 3 then min (a + b) r.p else if r.k = 4 then min a b else if r.k = 6 then orI a b else (a + b).tmod r.p
def addE (r : Rg) (x y : List Int) : List Int := List.zipWith (add1 r) x y
theorem orI_comm (a b : Int) : orI a b = orI b a := by unfold orI; rw [BitVec.or_comm]
theorem add1_comm (r : Rg) (a b : Int) : add1 r a b = add1 r b a := by
  unfold add1
  rw [Int.max_comm, Int.add_comm, Int.min_comm a b, orI_comm]
theorem addE_comm (r : Rg) (x y : List Int) : addE r x y = addE r y x := by
  unfold addE
  rw [List.zipWith_comm]
  congr 1
  funext a b
  exact add1_comm r b a
theorem addE_len {r : Rg} {x y : List Int} {n : Nat} (h : x.length = n) (h' : y.length = n) : (addE r x y).length = n := by simp [addE, h, h']
theorem addE_get {r : Rg} {x y : List Int} {k : Nat} (h : k < x.length) (h' : k < y.length) : (addE r x y)[k]? = some (add1 r x[k] y[k]) := by rw [addE, List.getElem?_zipWith, List.getElem?_eq_getElem h, List.getElem?_eq_getElem h']
theorem add1_wf {r : Rg} {a b : Int} (hr : ringOk r = true) (ha : 0 ≤ a ∧ a ≤ top r) (hb : 0 ≤ b ∧ b ≤ top r) : I64 (add1 r a b) := by
  have ht := top_bd hr
  unfold add1
  rcases ringOk_cases hr with h | h | h | h | h | h | h | h <;> obtain ⟨hk, h⟩ := h <;> simp only [hk]
  · rw [if_pos (.inl trivial)]; exact ⟨by omega, by omega⟩
  · rw [if_neg (by decide), if_neg (by decide), if_neg (by decide), if_neg (by decide)]
    have hp := (elem_low (r := r) (x := []) hr (fun k hk => by simp at hk) (.inl hk)).2
    have := tmb (a := a + b) (p := r.p) (by omega) (by omega)
    exact ⟨by omega, by omega⟩
  · rw [if_neg (by decide), if_pos trivial]; exact ⟨by omega, by omega⟩
  · rw [if_neg (by decide), if_neg (by decide), if_pos trivial]; exact ⟨by omega, by omega⟩
  · rw [if_pos (.inr trivial)]; exact ⟨by omega, by omega⟩
  · rw [if_neg (by decide), if_neg (by decide), if_neg (by decide), if_pos trivial]; exact wrap_bd _
  · rw [if_neg (by decide), if_neg (by decide), if_neg (by decide), if_neg (by decide)]
    have hp := (elem_low (r := r) (x := []) hr (fun k hk => by simp at hk) (.inr (.inl hk))).2
    have := tmb (a := a + b) (p := r.p) (by omega) (by omega)
    exact ⟨by omega, by omega⟩
  · rw [if_neg (by decide), if_neg (by decide), if_neg (by decide), if_neg (by decide)]
    have hp := (elem_low (r := r) (x := []) hr (fun k hk => by simp at hk) (.inr (.inr hk))).2
    have := tmb (a := a + b) (p := r.p) (by omega) (by omega)
    exact ⟨by omega, by omega⟩
theorem addE_wf {r : Rg} {x y : List Int} (hr : ringOk r = true) (hx : fits r x) (hy : fits r y) : ∀ z ∈ addE r x y, I64 z := by
  intro z hz
  obtain ⟨k, hk, rfl⟩ := List.mem_iff_getElem.1 hz
  have hk' : k < x.length ∧ k < y.length := by simp [addE] at hk; omega
  have h := addE_get (r := r) hk'.1 hk'.2
  rw [List.getElem?_eq_getElem hk] at h
  rw [Option.some.inj h]
  have h1 := hx k hk'.1
  have h2 := hy k hk'.2
  rw [getD_of hk'.1] at h1
  rw [getD_of hk'.2] at h2
  exact add1_wf hr h1 h2

/-! ### Joined element by element -/
def cutE (x : List Int) (wd k : Nat) : List Int := (x.drop (k * wd)).take wd
def opP (f : List Int → List Int → List Int) (x y : List Int) (wd : Nat) : Nat → List Int
  | 0 => []
  | k + 1 => opP f x y wd k ++ f (cutE x wd k) (cutE y wd k)
/-- Behind k elements; the rest is that of z. -/
def opTo (f : List Int → List Int → List Int) (x y z : List Int) (wd k : Nat) : List Int := opP f x y wd k ++ z.drop (k * wd)
section
variable {f : List Int → List Int → List Int} {x y z : List Int} {wd n k : Nat}
theorem cutE_len (h : x.length = n * wd) (hk : k < n) : (cutE x wd k).length = wd := by
  have := mul_step (wd := wd) hk
  unfold cutE
  rw [List.length_take, List.length_drop]
  omega
theorem opP_len (hf : ∀ k, k < n → (f (cutE x wd k) (cutE y wd k)).length = wd) : ∀ k, k ≤ n → (opP f x y wd k).length = k * wd
  | 0, _ => by simp [opP]
  | k + 1, h => by
    rw [opP, List.length_append, opP_len hf k (by omega), hf k (by omega), Nat.add_mul, Nat.one_mul]
theorem opTo_zero : opTo f x y z wd 0 = z := by simp [opTo, opP]
theorem opTo_all (h : z.length = n * wd) : opTo f x y z wd n = opP f x y wd n := by simp [opTo, h]
theorem opTo_len (hf : ∀ k, k < n → (f (cutE x wd k) (cutE y wd k)).length = wd) (h : z.length = n * wd) (hk : k ≤ n) : (opTo f x y z wd k).length = n * wd := by
  have := Nat.mul_le_mul_right wd hk
  rw [opTo, List.length_append, opP_len hf k hk, List.length_drop]
  omega
theorem opTo_cut (hf : ∀ k, k < n → (f (cutE x wd k) (cutE y wd k)).length = wd) (hk : k ≤ n) : cutE (opTo f x y z wd k) wd k = cutE z wd k := by
  have hl := opP_len hf k hk
  unfold cutE opTo
  rw [List.drop_append_of_le_length (by omega), List.drop_of_length_le (by omega), List.nil_append]
theorem opTo_put (hf : ∀ k, k < n → (f (cutE x wd k) (cutE y wd k)).length = wd) (hk : k < n) : putE (opTo f x y z wd k) (k * wd) (f (cutE x wd k) (cutE y wd k)) = opTo f x y z wd (k + 1) := by
  have hl := opP_len hf k (by omega)
  unfold putE opTo
  rw [List.take_append_of_le_length (by omega), List.take_of_length_le (by omega), hf k hk, List.drop_append, List.drop_of_length_le (by omega), List.nil_append, opP, List.drop_drop, Nat.add_mul, Nat.one_mul]
  congr 2
  omega
theorem opP_comm (hf : ∀ a b, f a b = f b a) : ∀ k, opP f x y wd k = opP f y x wd k
  | 0 => rfl
  | k + 1 => by rw [opP, opP, opP_comm hf k, hf]
theorem opP_wf (hf : ∀ k, k < n → ∀ z ∈ f (cutE x wd k) (cutE y wd k), I64 z) : ∀ k, k ≤ n → ∀ z ∈ opP f x y wd k, I64 z
  | 0, _ => by simp [opP]
  | k + 1, h => fun z hz => by
    rcases List.mem_append.1 hz with hz | hz
    · exact opP_wf hf k (by omega) z hz
    · exact hf k (by omega) z hz
end

/-! ### Aligned -/
theorem sameB_symm {ls L : List Int} (hn : ls.Nodup) (h : sameB ls L = true) : sameB L ls = true := by
  obtain ⟨h1, h2⟩ := of_decide_eq_true h
  have hL : L.Nodup := nodup_of_fresh fun k hk => (h2 k hk).2
  have hs : ∀ x ∈ L, x ∈ ls := fun x hx => by
    obtain ⟨k, hk, rfl⟩ := List.mem_iff_getElem.1 hx
    exact (h2 k hk).1
  exact decide_eq_true ⟨h1.symm, fun k hk => ⟨sub_back hL hs (by omega) _ (List.getElem_mem hk), fresh_of hn hk⟩⟩
def alS (r : Rg) (a b : Ten) : Bool := tensorOk r a.labels a.dims a.data && tensorOk r b.labels b.dims b.data && sameB a.labels b.labels
def alB (r : Rg) (a b : Ten) : Bool := alS r a b && decide (permD b a.labels = a.dims)
/-- b, with its axes in the order of a's. -/
def alT (r : Rg) (a b : Ten) : Ten := permR (width r).toNat b a.labels
structure AlOk (r : Rg) (a b : Ten) (wd n : Nat) : Prop where
  ring : ringOk r = true
  w : width r = wd
  wb : 1 ≤ wd ∧ wd ≤ 6
  pa : prodI a.dims = n
  n1 : 1 ≤ n ∧ n ≤ 4096
  ax : axOk a.labels a.dims
  la : a.data.length = n * wd
  lb : (alT r a b).data.length = n * wd
  fa : fits r a.data
  fb : fits r (alT r a b).data
  dims : permD b a.labels = a.dims
theorem alOk_of {r : Rg} {a b : Ten} (h : alB r a b = true) : ∃ wd n : Nat, AlOk r a b wd n := by
  simp only [alB, alS, Bool.and_eq_true, decide_eq_true_eq] at h
  obtain ⟨⟨⟨ha, hb⟩, hs⟩, hd⟩ := h
  obtain ⟨wd, n, e1, e2, e3, e4, e5, e6, e7, e8, e9, e10⟩ := ten_facts ha
  obtain ⟨wd', n', f1, f2, hp⟩ := mkPerm hb (sameB_symm (axOk_nodup e10) hs)
  have hww : wd' = wd := by omega
  subst hww
  have hal : alT r a b = permR wd' b a.labels := by unfold alT; rw [f1]; rfl
  have h8 : fits r b.data := (ten_facts hb).choose_spec.choose_spec.2.2.2.2.2.2.2.1
  refine ⟨wd', n, e9, e1, ⟨e3, e4⟩, e2, ⟨e5, e6⟩, e10, e7, ?_, e8, ?_, hd⟩
  · have h1 := permR_dlen hp
    rw [hd, e2] at h1
    rw [hal]
    have : ((permR wd' b a.labels).data.length : Int) = (n * wd' : Nat) := by rw [h1]; push_cast; rfl
    omega
  · rw [hal]
    exact permR_fits (n := n) h8
theorem fits_cutE {r : Rg} {x : List Int} (h : fits r x) (wd k : Nat) : fits r (cutE x wd k) := fits_cut h (k * wd) wd
namespace AlOk
variable {r : Rg} {a b : Ten} {wd n : Nat}
theorem add (h : AlOk r a b wd n) : ∀ k, k < n → (addE r (cutE a.data wd k) (cutE (alT r a b).data wd k)).length = wd := fun k hk => addE_len (cutE_len h.la hk) (cutE_len h.lb hk)
theorem mul (h : AlOk r a b wd n) : ∀ k, k < n → (mulE r (cutE a.data wd k) (cutE (alT r a b).data wd k)).length = wd := fun k hk => (mulE_facts h.ring h.w (fits_cutE h.fa wd k) (fits_cutE h.fb wd k) (cutE_len h.la hk) (cutE_len h.lb hk)).1
end AlOk
/-- a and b, joined by f. -/
def joinT (f : List Int → List Int → List Int) (r : Rg) (a b : Ten) : Ten := bif alB r a b then ⟨a.labels, a.dims, opP f a.data (alT r a b).data (width r).toNat (prodI a.dims).toNat⟩ else ⟨[], [], []⟩
theorem joinT_yes {f : List Int → List Int → List Int} {r : Rg} {a b : Ten} {wd n : Nat} (h : alB r a b = true) (h' : AlOk r a b wd n) : joinT f r a b = ⟨a.labels, a.dims, opP f a.data (alT r a b).data wd n⟩ := by
  rw [joinT, h, h'.w, h'.pa]; rfl
theorem joinT_sz {f : List Int → List Int → List Int} {r : Rg} {a b : Ten} (h : TSz 1048576 a) (hf : ∀ wd n, AlOk r a b wd n → ∀ k, k < n → (f (cutE a.data wd k) (cutE (alT r a b).data wd k)).length = wd ∧ ∀ z ∈ f (cutE a.data wd k) (cutE (alT r a b).data wd k), I64 z) : TSz 1048576 (joinT f r a b) := by
  cases e : alB r a b
  · rw [joinT, e]; exact ⟨⟨by simp, by simp⟩, ⟨by simp, by simp⟩, ⟨by simp, by simp⟩⟩
  · obtain ⟨wd, n, ho⟩ := alOk_of e
    rw [joinT_yes e ho]
    refine ⟨h.l, h.d, ⟨?_, fun x hx => opP_wf (fun k hk => (hf wd n ho k hk).2) n (Nat.le_refl _) x hx⟩⟩
    show (opP f _ _ _ _).length ≤ _
    rw [opP_len (fun k hk => (hf wd n ho k hk).1) n (Nat.le_refl _), ← ho.la]
    exact h.x.len
end Go.Proofs.Ytcgnehacihjnkaa
