/-
  Lists of which a part has been written: the first k members are the new ones. No condition.
-/
import Derived.Test.YtmgifmgdfldheaaLift28
namespace Go.Proofs.Ytmgifmgdfldheaa

theorem Sz.up {m : Nat} {xs : List Int} (h : Sz 1048576 xs) (hm : 1048576 ≤ m := by omega) : Sz m xs := ⟨Nat.le_trans h.len hm, h.wf⟩
theorem TSz.up {m : Nat} {t : Ten} (h : TSz 1048576 t) (hm : 1048576 ≤ m := by omega) : TSz m t := ⟨h.l.up hm, h.d.up hm, h.x.up hm⟩
/-- The first k members of l, then those of r. -/
def mix (l r : List Int) (k : Nat) : List Int := l.take k ++ r.drop k
section
variable {l r : List Int} {k : Nat}
theorem mix_zero : mix l r 0 = r := by simp [mix]
theorem mix_full (h : r.length ≤ k) (h' : l.length ≤ k) : mix l r k = l := by simp [mix, List.drop_eq_nil_of_le h, List.take_of_length_le h']
theorem mix_self : mix l l k = l := by simp [mix]
theorem mix_len (h : l.length = r.length) : (mix l r k).length = l.length := by simp [mix]; omega
theorem mix_next {x : Int} (h : l.length = r.length) (hx : l[k]? = some x) : (mix l r k).take k ++ [x] ++ (mix l r k).drop (k + 1) = mix l r (k + 1) := by
  have hk : k < l.length := (List.getElem?_eq_some_iff.1 hx).1
  have e : x = l[k] := by rw [List.getElem?_eq_getElem hk] at hx; simpa using hx.symm
  subst e
  unfold mix
  rw [List.take_append_of_le_length (by simp; omega), List.take_of_length_le (by simp; omega), List.drop_append, List.drop_eq_nil_of_le (by simp; omega), List.nil_append, List.drop_drop, List.take_succ_eq_append_getElem hk,
    List.append_assoc, List.append_assoc, List.length_take, show k + (k + 1 - min k l.length) = k + 1 by omega]
theorem mix_get (h : l.length = r.length) {i : Nat} : (mix l r k)[i]? = if i < k then l[i]? else r[i]? := by
  unfold mix
  split
  · rename_i h1
    by_cases h2 : i < l.length
    · rw [List.getElem?_append_left (by simp; omega), List.getElem?_take, if_pos h1]
    · rw [List.getElem?_append_right (by simp; omega), List.getElem?_drop, List.getElem?_eq_none (by simp; omega), List.getElem?_eq_none (by omega)]
  · by_cases h2 : i < l.length
    · rw [List.getElem?_append_right (by simp; omega), List.getElem?_drop, List.length_take]
      congr 1
      omega
    · rw [List.getElem?_eq_none (by simp; omega), List.getElem?_eq_none (by omega)]
/-- One cell written. -/
theorem put_set {n : Nat} {x : Int} {xs : List Int} (h : n < xs.length) : xs.take n ++ [x] ++ xs.drop (n + 1) = xs.set n x := by
  rw [List.set_eq_take_append_cons_drop, if_pos h, List.append_assoc]
  rfl
end
end Go.Proofs.Ytmgifmgdfldheaa
