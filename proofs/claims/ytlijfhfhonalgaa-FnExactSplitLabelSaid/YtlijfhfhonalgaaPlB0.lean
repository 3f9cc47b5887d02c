/-
  Plain lists: labels without some, without doubles. No condition.
-/
import Derived.Test.YtlijfhfhonalgaaPlA
import Derived.Test.YtlijfhfhonalgaaCoS
namespace Go.Proofs.Ytlijfhfhonalgaa
open Go.RowKit Go.Lift Plain
set_option linter.unusedSimpArgs false
set_option linter.unusedVariables false

theorem nodup_len_le : ∀ {L ls : List Int}, L.Nodup → (∀ x ∈ L, x ∈ ls) → L.length ≤ ls.length
  | [], ls, _, _ => Nat.zero_le _
  | l :: L, ls, hn, hs => by
    simp only [List.nodup_cons] at hn
    have hl : l ∈ ls := hs l (by simp)
    have h1 := nodup_len_le (L := L) (ls := ls.erase l) hn.2 (fun y hy => (List.mem_erase_of_ne (fun (e : y = l) => hn.1 (e ▸ hy))).2 (hs y (by simp [hy])))
    have h2 := List.length_erase_of_mem hl
    have h3 := List.length_pos_of_mem hl
    simp only [List.length_cons]
    omega
def wol (ls L : List Int) : List Int := ls.filter fun x => !has L x
theorem wol_len (ls L : List Int) : (wol ls L).length ≤ ls.length := List.length_filter_le _ _
theorem wol_mem {ls L : List Int} {y : Int} : y ∈ wol ls L ↔ y ∈ ls ∧ y ∉ L := by simp [wol, has]
def distB (ls L : List Int) : Bool := decide (∀ k (hk : k < L.length), L[k] ∈ ls ∧ L[k] ∉ L.take k)
theorem distB_no {ls L : List Int} (k : Nat) (hk : k < L.length) (h : ¬ (L[k] ∈ ls ∧ L[k] ∉ L.take k)) : distB ls L = false := decide_eq_false fun e => h (e k hk)
theorem distB_nodup {ls L : List Int} (h : distB ls L = true) : L.Nodup ∧ ∀ x ∈ L, x ∈ ls := by
  have h := of_decide_eq_true h
  refine ⟨nodup_of_fresh fun k hk => (h k hk).2, fun x hx => ?_⟩
  obtain ⟨k, hk, rfl⟩ := List.getElem_of_mem hx
  exact (h k hk).1
theorem distB_len {ls L : List Int} (h : distB ls L = true) : L.length ≤ ls.length := nodup_len_le (distB_nodup h).1 (distB_nodup h).2
theorem wol_app_nodup {ls L : List Int} (hn : ls.Nodup) (hL : L.Nodup) : (wol ls L ++ L).Nodup := by
  rw [List.nodup_append]
  exact ⟨List.Nodup.sublist List.filter_sublist hn, hL, fun a ha b hb e => (wol_mem.1 ha).2 (e ▸ hb)⟩
theorem fuse_same {ls L : List Int} (hn : ls.Nodup) (h : distB ls L = true) : sameB ls (wol ls L ++ L) = true := by
  obtain ⟨h1, h2⟩ := distB_nodup h
  have hnn := wol_app_nodup hn h1
  have hs : ∀ x ∈ wol ls L ++ L, x ∈ ls := fun x hx => by
    rcases List.mem_append.1 hx with hx | hx
    · exact (wol_mem.1 hx).1
    · exact h2 x hx
  have hs' : ∀ x ∈ ls, x ∈ wol ls L ++ L := fun x hx => by
    by_cases e : x ∈ L
    · exact List.mem_append.2 (.inr e)
    · exact List.mem_append.2 (.inl (wol_mem.2 ⟨hx, e⟩))
  refine decide_eq_true ⟨Nat.le_antisymm (nodup_len_le hnn hs) (nodup_len_le hn hs'), fun k hk => ⟨hs _ (List.getElem_mem hk), fresh_of hnn hk⟩⟩
theorem fits_of {r : Rg} {xs : List Int} (h : ∀ x ∈ xs, 0 ≤ x ∧ x ≤ top r) : fits r xs := fun k hk => h _ (mem_of_get xs k hk)
theorem fits_mem {r : Rg} {xs : List Int} (h : fits r xs) : ∀ x ∈ xs, 0 ≤ x ∧ x ≤ top r := fun x hx => by
  obtain ⟨k, hk, rfl⟩ := List.getElem_of_mem hx
  have := h k hk
  rwa [getD_of hk] at this
theorem tenOk_of {r : Rg} {ls ds xs : List Int} (h1 : ringOk r = true) (h2 : (xs.length : Int) = prodI ds * width r) (h3 : fits r xs) : tensorOk r ls ds xs = decide (tsize ls ds ≠ -1) := by
  rw [tensorOk, h1, show fitsB r xs = true from decide_eq_true h3, Bool.true_and, Bool.and_true]
  rcases tsize_cases ls ds with h | ⟨_, _, h, _⟩
  · simp [h]
  · rw [h]
    by_cases e : prodI ds = -1 <;> simp [e, h2]
set_option maxRecDepth 100000
end Go.Proofs.Ytlijfhfhonalgaa
