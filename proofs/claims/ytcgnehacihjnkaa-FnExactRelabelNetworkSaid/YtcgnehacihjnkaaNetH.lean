/-
  Contracts: networks scaled, without units (by the reference), joined. No condition.
-/
import Derived.Test.YtcgnehacihjnkaaNetG
namespace Go.Proofs.Ytcgnehacihjnkaa
open Go.RowKit Go.Lift Plain
set_option linter.unusedSimpArgs false
set_option linter.unusedVariables false
set_option maxRecDepth 100000

theorem mapL_spG_iv (i j k' n : Nat) (xs : List Int) : mapL (spG i j k' n) (iv xs) = iv xs := mapL_iv _ fun _ => rfl
theorem mapL_spG_tcA (i j k' n : Nat) (ts : List Ten) : mapL (spG i j k' n) (tcA ts) = tcA ts := mapL_tcA _ fun _ => rfl
section
variable {A B : List AV} {q : Nat} {x y z : AV}
theorem row3_take (h : A.length = q) : (A ++ [x, y, z] ++ B).take q = A := by subst h; simp
theorem row3_drop (h : A.length = q) : (A ++ [x, y, z] ++ B).drop (q + 3) = B := by subst h; simp
theorem row3_mid (h : A.length = q) : ((A ++ [x, y, z] ++ B).drop q).take 3 = [x, y, z] := by subst h; simp
theorem row3_len : (A ++ [x, y, z] ++ B).length = A.length + 3 + B.length := by simp; omega
end
theorem totT_le : ∀ {ts : List Ten} {n : Nat}, ts.length ≤ n → (∀ t ∈ ts, TSz 1048576 t) → totT ts ≤ n * 3145728
  | [], n, _, _ => by simp [totT]
  | t :: l, n + 1, h, ht => by
    have h1 := totT_le (ts := l) (n := n) (by simpa using h) (fun u hu => ht u (List.mem_cons_of_mem _ hu))
    have h2 := ht t (List.mem_cons_self ..)
    have a := h2.l.len
    have b := h2.d.len
    have c := h2.x.len
    simp only [totT, lenT]
    omega
theorem openNet_tot {N : Net} {L : List Int} (h : NSz 1048576 N) (hL : Sz 1048576 L) : totT (openNet N L).ts + (openNet N L).os.length ≤ 100000000 := by
  have hL' := hL.len
  unfold openNet
  cases e : openB N L
  · simp [zeroN, totT]
  · simp only [openB, Bool.and_eq_true] at e
    have := totT_le (netOk_iff.1 e.1).2.1 h.t
    simp only [cond_true, Net.withO]
    omega
theorem scaleN_tot {N : Net} {x : List Int} (h : NSz 1048576 N) (hx : Sz 1048576 x) : totT (scaleN N x).ts + (scaleN N x).os.length ≤ 100000000 := by
  have hsz := scaleN_sz h hx
  have ho := hsz.o.len
  unfold scaleN at *
  cases e : scaleB N x
  · simp [zeroN, totT]
  · rw [e] at hsz ho
    simp only [scaleB, Bool.and_eq_true, decide_eq_true_eq] at e
    have := totT_le (n := 12) (by simp; omega) hsz.t
    simp only [cond_true] at ho this ⊢
    omega
theorem dropN_tot {N : Net} (h : NSz 1048576 N) : totT (dropN N).ts + (dropN N).os.length ≤ 100000000 := by
  have hsz := dropN_sz h
  have ho := hsz.o.len
  unfold dropN at *
  cases e : netOk N
  · simp [zeroN, totT]
  · rw [e] at hsz ho
    have := totT_le (n := 12) (by simp; exact (netOk_iff.1 e).2.1) hsz.t
    simp only [cond_true] at ho this ⊢
    omega
theorem markTs_take {ts : List Ten} {m : Int} : (tcA (markTs ts m)).take (ts.length * 3) = tcA (markTs ts m) := List.take_of_length_le (by rw [tcA_len, markTs_len]; exact Nat.le_refl _)
attribute [go_sem] markTs_take
end Go.Proofs.Ytcgnehacihjnkaa
