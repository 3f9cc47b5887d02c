/-
  Contracts: the same labels in any order. No condition.
-/
import Derived.Test.YtcgnehacihjnkaaCoB
import Derived.Test.YtcgnehacihjnkaaPlA
namespace Go.Proofs.Ytcgnehacihjnkaa
open Go.RowKit Go.Lift Plain
set_option linter.unusedSimpArgs false
set_option linter.unusedVariables false
set_option maxRecDepth 100000

def sameB (ls L : List Int) : Bool := decide (L.length = ls.length ∧ ∀ k (hk : k < L.length), L[k] ∈ ls ∧ L[k] ∉ L.take k)
end Go.Proofs.Ytcgnehacihjnkaa

/-
  Plain lists: labels without some, without doubles. No condition.
-/
namespace Go.Proofs.Ytcgnehacihjnkaa
open Go.RowKit Go.Lift Plain
set_option linter.unusedSimpArgs false
set_option linter.unusedVariables false

def wol (ls L : List Int) : List Int := ls.filter fun x => !has L x
theorem wol_len (ls L : List Int) : (wol ls L).length ≤ ls.length := List.length_filter_le _ _
theorem wol_mem {ls L : List Int} {y : Int} : y ∈ wol ls L ↔ y ∈ ls ∧ y ∉ L := by simp [wol, has]
set_option maxRecDepth 100000
end Go.Proofs.Ytcgnehacihjnkaa

/-
  Plain lists of label lists: buckets, elimination. No condition.
-/
namespace Go.Proofs.Ytcgnehacihjnkaa
open Go.RowKit Go.Lift Plain
set_option linter.unusedSimpArgs false
set_option linter.unusedVariables false

def lget (L : List (List Int)) (k : Nat) : List Int := L.getD k []
theorem lget_at {L : List (List Int)} {k : Nat} (h : k < L.length) : lget L k = L[k] := by simp [lget, h]
def LOk (L : List (List Int)) : Prop := ∀ l ∈ L, l.Nodup ∧ ∀ x ∈ l, 0 ≤ x ∧ x ≤ 99
theorem nodup_sub_len : ∀ {l M : List Int}, l.Nodup → (∀ x ∈ l, x ∈ M) → l.length ≤ M.length
  | [], _, _, _ => Nat.zero_le _
  | x :: l, M, h, hs => by
    rw [List.nodup_cons] at h
    have hx := hs x (List.mem_cons_self ..)
    have h1 := nodup_sub_len (l := l) (M := M.erase x) h.2 fun y hy => (List.mem_erase_of_ne (fun e => h.1 (by rwa [← e]))).2 (hs y (List.mem_cons_of_mem _ hy))
    have h2 := List.length_erase_of_mem hx
    have h3 := List.length_pos_of_mem hx
    simp only [List.length_cons]
    omega
theorem nodup_len {l : List Int} (h : l.Nodup) (hb : ∀ x ∈ l, 0 ≤ x ∧ x ≤ 99) : l.length ≤ 100 := by
  have h1 := nodup_sub_len (M := (List.range 100).map fun (i : Nat) => (i : Int)) h fun x hx => by
    have := hb x hx
    exact List.mem_map.2 ⟨x.toNat, by simp; omega, by omega⟩
  simpa using h1
theorem joinL_nodup {a b : List Int} (ha : a.Nodup) (hb : b.Nodup) : (joinL a b).Nodup := by
  unfold joinL
  refine List.nodup_append.2 ⟨ha, hb.filter _, fun x hx y hy e => ?_⟩
  subst e
  simp only [List.mem_filter, Bool.not_eq_true', has_false] at hy
  exact hy.2 hx
def buckTo (L : List (List Int)) (x : Int) : Nat → List Int
  | 0 => []
  | k + 1 => if has (lget L k) x = true then joinL (buckTo L x k) (lget L k) else buckTo L x k
section
variable {L : List (List Int)} {x : Int} {k : Nat}
theorem buckTo_yes (h : k < L.length) (hh : has L[k] x = true) : buckTo L x (k + 1) = joinL (buckTo L x k) L[k] := by rw [buckTo, lget_at h, if_pos hh]
theorem buckTo_no (h : k < L.length) (hh : has L[k] x = false) : buckTo L x (k + 1) = buckTo L x k := by rw [buckTo, lget_at h, if_neg (by rw [hh]; simp)]
theorem buckTo_ok (h : LOk L) : ∀ k, k ≤ L.length → (buckTo L x k).Nodup ∧ ∀ y ∈ buckTo L x k, 0 ≤ y ∧ y ≤ 99
  | 0, _ => by simp [buckTo]
  | k + 1, hk => by
    have ih := buckTo_ok h k (by omega)
    have hl := h L[k] (List.getElem_mem (by omega))
    cases hh : has L[k] x
    · rw [buckTo_no (by omega) hh]; exact ih
    · rw [buckTo_yes (by omega) hh]
      refine ⟨joinL_nodup ih.1 hl.1, fun y hy => ?_⟩
      rcases mem_joinL.1 hy with hy | hy
      · exact ih.2 y hy
      · exact hl.2 y hy
def restTo (L : List (List Int)) (x : Int) (k : Nat) : List (List Int) := (L.take k).filter fun l => !has l x
theorem restTo_no (h : k < L.length) (hh : has L[k] x = true) : restTo L x (k + 1) = restTo L x k := by
  rw [restTo, List.take_succ_eq_append_getElem h, List.filter_append]
  simp [hh, restTo]
theorem restTo_yes (h : k < L.length) (hh : has L[k] x = false) : restTo L x (k + 1) = restTo L x k ++ [L[k]] := by
  rw [restTo, List.take_succ_eq_append_getElem h, List.filter_append]
  simp [hh, restTo]
theorem restTo_len : (restTo L x k).length ≤ k := by
  have h1 := List.length_filter_le (fun l => !has l x) (L.take k)
  have h2 := List.length_take_le k L
  unfold restTo
  omega
end
def bucket (L : List (List Int)) (x : Int) : List Int := buckTo L x L.length
def elimL (L : List (List Int)) (x : Int) : List (List Int) := restTo L x L.length ++ [(bucket L x).filter (· != x)]
theorem bucket_len {L : List (List Int)} (h : LOk L) (x : Int) : (bucket L x).length ≤ 100 := by
  obtain ⟨a, b⟩ := buckTo_ok (x := x) h L.length (Nat.le_refl _)
  exact nodup_len a b
theorem elimL_ok {L : List (List Int)} (h : LOk L) (x : Int) : LOk (elimL L x) := by
  intro l hl
  unfold elimL at hl
  rcases List.mem_append.1 hl with hl | hl
  · exact h l (List.mem_of_mem_take (List.mem_filter.1 hl).1)
  · simp only [List.mem_singleton] at hl
    subst hl
    obtain ⟨a, b⟩ := buckTo_ok (x := x) h L.length (Nat.le_refl _)
    exact ⟨a.filter _, fun y hy => b y (List.mem_filter.1 hy).1⟩
theorem elimL_len (L : List (List Int)) (x : Int) : (elimL L x).length ≤ L.length + 1 := by
  have := restTo_len (L := L) (x := x) (k := L.length)
  simp only [elimL, List.length_append, List.length_cons, List.length_nil]
  omega
end Go.Proofs.Ytcgnehacihjnkaa
