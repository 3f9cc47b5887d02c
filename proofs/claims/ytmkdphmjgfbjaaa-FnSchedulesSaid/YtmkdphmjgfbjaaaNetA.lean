/-
 Networks as plain data. No condition.
-/
import Derived.Test.YtmkdphmjgfbjaaaShapes
import Derived.Test.YtmkdphmjgfbjaaaLiftH
set_option linter.unusedSimpArgs false
set_option linter.unusedVariables false
namespace Go.Proofs.Ytmkdphmjgfbjaaa
open Go.RowKit Go.Lift Plain
def tcs : List Ten → List D
 | [] => []
 | t :: l => ints t.labels :: ints t.dims :: ints t.data :: tcs l
def tcA (ts : List Ten) : List AV := (tcs ts).map .tr
def tens (ts : List Ten) : D := .sl ts.length (tcs ts)
structure Net where
 k : Int
 p : Int
 n : Int
 ts : List Ten
 os : List Int
def Net.rg (N : Net) : Rg := ⟨N.k, N.p, N.n⟩
def netA (N : Net) : AV := .agg [.d (.int N.k), .d (.int N.p), .d (.int N.n), .d (tens N.ts), .d (ints N.os)]
def ownN (k : Nat) (N : Net) : AV := .agg [.d (.int N.k), .d (.int N.p), .d (.int N.n), .own k 0 N.ts.length, .own (k + 1) 0 N.os.length]
def stoN (N : Net) : Sto := [some ⟨3, true, tcA N.ts⟩, some ⟨1, true, iv N.os⟩]
def stoNF (N : Net) : Sto := [some ⟨3, false, tcA N.ts⟩, some ⟨1, false, iv N.os⟩]
section
variable {ts : List Ten}
theorem tcs_len : ∀ {ts : List Ten}, (tcs ts).length = ts.length * 3
 | [] => rfl
 | t :: l => by simp [tcs, tcs_len (ts := l)]; omega
theorem tcA_len : (tcA ts).length = ts.length * 3 := by simp [tcA, tcs_len]
theorem tcs_app : ∀ (a b : List Ten), tcs (a ++ b) = tcs a ++ tcs b
 | [], b => rfl
 | t :: l, b => by simp [tcs, tcs_app l b]
theorem tcA_app (a b : List Ten) : tcA (a ++ b) = tcA a ++ tcA b := by simp [tcA, tcs_app]
theorem tcA_one (t : Ten) : tcA [t] = [.tr (ints t.labels), .tr (ints t.dims), .tr (ints t.data)] := rfl
theorem tcs_drop : ∀ {ts : List Ten} {k : Nat} {t : Ten}, ts[k]? = some t → (tcs ts).drop (k * 3) = ints t.labels :: ints t.dims :: ints t.data :: tcs (ts.drop (k + 1))
 | [], _, _, h => by simp at h
 | x :: l, 0, t, h => by simp at h; subst h; simp [tcs]
 | x :: l, k + 1, t, h => by
  have := tcs_drop (ts := l) (k := k) (t := t) (by simpa using h)
  rw [tcs, show (k + 1) * 3 = k * 3 + 3 by omega]
  simpa using this
theorem tcs_cut {k : Nat} {t : Ten} (h : ts[k]? = some t) : ((tcs ts).drop (k * 3)).take 3 = [ints t.labels, ints t.dims, ints t.data] := by rw [tcs_drop h]; rfl
theorem tcA_take : (tcA ts).take (ts.length * 3) = tcA ts := List.take_of_length_le (by rw [tcA_len]; omega)
theorem tcs_take : (tcs ts).take (ts.length * 3) = tcs ts := List.take_of_length_le (by rw [tcs_len]; omega)
theorem rnL_tcA (ρ : Nat → Option Nat) : rnL ρ (tcA ts) = tcA ts := by
 rw [rnL_eq, tcA, List.map_map]
 exact List.map_congr_left fun x _ => rfl
theorem cgL_tcA (gv : List Nat) (M : List Nat) : cgL gv M (tcA ts) = tcA ts := by
 rw [cgL_eq, tcA, List.map_map]
 exact List.map_congr_left fun x _ => rfl
theorem cellsD_tcA : cellsD (tcA ts) = some (tcs ts) := by
 unfold tcA
 induction tcs ts with
 | nil => rfl
 | cons x l ih => simp only [List.map_cons, cellsD, cellD, ih]
theorem tcA_nil : tcA [] = [] := rfl
end
attribute [go_sem] tcA_len tcs_len tcA_take tcs_take rnL_tcA cgL_tcA cellsD_tcA tcA_nil tens netA ownN stoN stoNF
end Go.Proofs.Ytmkdphmjgfbjaaa
