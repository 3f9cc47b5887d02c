/-
  Plain facts on indices and offsets; no program in sight. No condition.
-/
import Derived.Test.YtmgifmgdfldheaaPlain
namespace Go.Proofs.Ytmgifmgdfldheaa.Plain

/-! ### An index and its offset -/
def offsTo (ds is : List Int) : Nat → Int
  | 0 => 0
  | k + 1 => offsTo ds is k * ds.getD k 0 + is.getD k 0
def idxAt (ds is : List Int) (k : Nat) : Prop := 0 ≤ is.getD k 0 ∧ is.getD k 0 < ds.getD k 0
instance (ds is : List Int) (k : Nat) : Decidable (idxAt ds is k) := by unfold idxAt; infer_instance
def idxOk (ds is : List Int) : Prop := is.length = ds.length ∧ ∀ k, k < ds.length → idxAt ds is k
instance (ds is : List Int) : Decidable (idxOk ds is) := by unfold idxOk; infer_instance
def idxB (ds is : List Int) : Bool := decide (idxOk ds is)
def offs (ds is : List Int) : Int := offsTo ds is ds.length
def offsetOf (ls ds is : List Int) : Int := if tsize ls ds ≠ -1 ∧ idxOk ds is then offs ds is else -1
theorem idxB_len {ds is : List Int} (h : is.length ≠ ds.length) : idxB ds is = false := decide_eq_false (fun h1 => h h1.1)
theorem idxB_at {ds is : List Int} (k : Nat) (hk : k < ds.length) (h : ¬ idxAt ds is k) : idxB ds is = false := decide_eq_false (fun h1 => h (h1.2 k hk))
theorem idxB_yes {ds is : List Int} (h : is.length = ds.length) (h2 : ∀ k, k < ds.length → idxAt ds is k) : idxB ds is = true := decide_eq_true ⟨h, h2⟩
theorem offsTo_bd (ds is : List Int) (hd : ∀ d ∈ ds, 1 ≤ d) : ∀ k, k ≤ ds.length → (∀ j, j < k → idxAt ds is j) → 0 ≤ offsTo ds is k ∧ offsTo ds is k < prodI (ds.take k) := by
  intro k
  induction k with
  | zero => intro _ _; simp [offsTo, prodI]
  | succ k ih =>
    intro hk h
    obtain ⟨h1, h2⟩ := ih (by omega) (fun j hj => h j (by omega))
    obtain ⟨h3, h4⟩ := h k (by omega)
    have hdk := hd _ (mem_of_get ds k (by omega))
    rw [prodI_take_succ ds k (by omega)]
    show 0 ≤ offsTo ds is k * ds.getD k 0 + is.getD k 0 ∧ offsTo ds is k * ds.getD k 0 + is.getD k 0 < _
    have h5 : 0 ≤ offsTo ds is k * ds.getD k 0 := Int.mul_nonneg h1 (by omega)
    have h6 : (offsTo ds is k + 1) * ds.getD k 0 ≤ prodI (ds.take k) * ds.getD k 0 := Int.mul_le_mul_of_nonneg_right (by omega) (by omega)
    rw [Int.add_mul, Int.one_mul] at h6
    omega
theorem offsTo_succ (ds is : List Int) (k : Nat) : offsTo ds is (k + 1) = offsTo ds is k * ds.getD k 0 + is.getD k 0 := rfl
theorem offs_bd (ls ds is : List Int) (h : axOk ls ds) (hi : idxOk ds is) : 0 ≤ offs ds is ∧ offs ds is < prodI ds := by
  have := offsTo_bd ds is (fun d hd => (h.dim d hd).1) ds.length (Nat.le_refl _) hi.2
  rwa [List.take_length] at this

/-! ### The index at an offset -/
def digit (ds : List Int) (n : Int) (k : Nat) : Int := (n / prodI (ds.drop (k + 1))) % ds.getD k 0
def digits (ds : List Int) (n : Int) : List Int := (List.range ds.length).map (digit ds n)
theorem digits_len (ds : List Int) (n : Int) : (digits ds n).length = ds.length := by simp [digits]
theorem digits_get (ds : List Int) (n : Int) (k : Nat) (h : k < ds.length) : (digits ds n).getD k 0 = digit ds n k := by simp [digits, h]
theorem prodI_drop (ds : List Int) (k : Nat) (h : k < ds.length) : prodI (ds.drop k) = ds.getD k 0 * prodI (ds.drop (k + 1)) := by
  rw [List.drop_eq_getElem_cons h, prodI_cons]
  simp [List.getElem?_eq_getElem h]
theorem quot_step (ds : List Int) (n : Int) (k : Nat) (h : k < ds.length) (hd : ∀ d ∈ ds, 1 ≤ d) : n / prodI (ds.drop (k + 1)) / ds.getD k 0 = n / prodI (ds.drop k) := by
  rw [prodI_drop ds k h, Int.ediv_ediv_of_nonneg (by have := prodI_pos (ds.drop (k + 1)) (fun d hx => hd d (List.mem_of_mem_drop hx)); omega), Int.mul_comm]
theorem set_rep_drop (D : List Int) (j n : Nat) (hl : D.length = n) (hj : j < n) :
    (List.replicate (j + 1) 0 ++ D.drop (j + 1)).set j (D.getD j 0) = List.replicate j 0 ++ D.drop j := by
  subst hl
  rw [List.set_append_left _ _ (by simp), List.replicate_succ', List.set_append_right _ _ (by simp), List.length_replicate, Nat.sub_self, List.set_cons_zero, List.append_assoc, List.singleton_append, List.drop_eq_getElem_cons hj]
  simp [List.getElem?_eq_getElem hj]

def indexAtOk (ls ds : List Int) (n : Int) : Bool := decide (0 ≤ n ∧ n < tsize ls ds)
def indexAt (ls ds : List Int) (n : Int) : List Int := if 0 ≤ n ∧ n < tsize ls ds then digits ds n else []

end Go.Proofs.Ytmgifmgdfldheaa.Plain
