/-
  Networks as plain data. No condition.
-/
import Derived.Test.YtodlbhjnmdhjiaaDoorShapes
import Derived.Test.YtodlbhjnmdhjiaaDoorLiftH
namespace Go.Proofs.YtodlbhjnmdhjiaaDoor
open Go.RowKit Go.Lift Plain
set_option linter.unusedSimpArgs false

def tcs : List Ten → List D
  | [] => []
  | t :: l => ints t.labels :: ints t.dims :: ints t.data :: tcs l
/-- Tensors, as the cells of a row that holds them. -/
def tcA (ts : List Ten) : List AV := (tcs ts).map .tr
def tens (ts : List Ten) : D := .sl ts.length (tcs ts)
structure Net where
  k : Int
  p : Int
  n : Int
  ts : List Ten
  os : List Int
def Net.rg (N : Net) : Rg := ⟨N.k, N.p, N.n⟩
def netA (N : Net) : AV := .agg [.d (.int N.k), .d (.int N.p), .d (.int N.n), .d (tens N.ts), .d (ints N.os)]
def ownN (k : Nat) (N : Net) : AV := .agg [.d (.int N.k), .d (.int N.p), .d (.int N.n), .own k 0 N.ts.length, .own (k + 1) 0 N.os.length]
def stoN (N : Net) : Sto := [some ⟨3, true, tcA N.ts⟩, some ⟨1, true, iv N.os⟩]
def stoNF (N : Net) : Sto := [some ⟨3, false, tcA N.ts⟩, some ⟨1, false, iv N.os⟩]

section
variable {ts : List Ten}
theorem tcs_len : ∀ {ts : List Ten}, (tcs ts).length = ts.length * 3
  | [] => rfl
  | t :: l => by simp [tcs, tcs_len (ts := l)]; omega
theorem tcA_len : (tcA ts).length = ts.length * 3 := by simp [tcA, tcs_len]
theorem tcs_app : ∀ (a b : List Ten), tcs (a ++ b) = tcs a ++ tcs b
  | [], b => rfl
  | t :: l, b => by simp [tcs, tcs_app l b]
theorem tcA_app (a b : List Ten) : tcA (a ++ b) = tcA a ++ tcA b := by simp [tcA, tcs_app]
theorem tcA_one (t : Ten) : tcA [t] = [.tr (ints t.labels), .tr (ints t.dims), .tr (ints t.data)] := rfl
theorem tcs_drop : ∀ {ts : List Ten} {k : Nat} {t : Ten}, ts[k]? = some t → (tcs ts).drop (k * 3) = ints t.labels :: ints t.dims :: ints t.data :: tcs (ts.drop (k + 1))
  | [], _, _, h => by simp at h
  | x :: l, 0, t, h => by simp at h; subst h; simp [tcs]
  | x :: l, k + 1, t, h => by
    have := tcs_drop (ts := l) (k := k) (t := t) (by simpa using h)
    rw [tcs, show (k + 1) * 3 = k * 3 + 3 by omega]
    simpa using this
theorem tcs_cut {k : Nat} {t : Ten} (h : ts[k]? = some t) : ((tcs ts).drop (k * 3)).take 3 = [ints t.labels, ints t.dims, ints t.data] := by rw [tcs_drop h]; rfl
theorem tcs_get {k : Nat} {t : Ten} (h : ts[k]? = some t) : (tcs ts)[k * 3]? = some (ints t.labels) ∧ (tcs ts)[k * 3 + 1]? = some (ints t.dims) ∧ (tcs ts)[k * 3 + 2]? = some (ints t.data) := by
  have := tcs_drop h
  have g : ∀ j, (tcs ts)[k * 3 + j]? = ((tcs ts).drop (k * 3))[j]? := fun j => by rw [List.getElem?_drop]
  have g0 := g 0
  rw [Nat.add_zero] at g0
  rw [g0, g 1, g 2, this]
  exact ⟨rfl, rfl, rfl⟩
theorem tcA_get {k : Nat} {t : Ten} (h : ts[k]? = some t) : (tcA ts)[k * 3]? = some (.tr (ints t.labels)) ∧ (tcA ts)[k * 3 + 1]? = some (.tr (ints t.dims)) ∧ (tcA ts)[k * 3 + 2]? = some (.tr (ints t.data)) := by
  obtain ⟨a, b, c⟩ := tcs_get h
  simp [tcA, a, b, c]
theorem tcA_take : (tcA ts).take (ts.length * 3) = tcA ts := List.take_of_length_le (by rw [tcA_len]; omega)
theorem tcs_take : (tcs ts).take (ts.length * 3) = tcs ts := List.take_of_length_le (by rw [tcs_len]; omega)
theorem rnL_tcA (ρ : Nat → Option Nat) : rnL ρ (tcA ts) = tcA ts := by
  rw [rnL_eq, tcA, List.map_map]
  exact List.map_congr_left fun x _ => rfl
theorem cgL_tcA (gv : List Nat) (M : List Nat) : cgL gv M (tcA ts) = tcA ts := by
  rw [cgL_eq, tcA, List.map_map]
  exact List.map_congr_left fun x _ => rfl
theorem mapL_tcA (g : AV → AV) (h : ∀ x, g (.tr x) = .tr x) : mapL g (tcA ts) = tcA ts := by
  rw [mapL_eq, tcA, List.map_map]
  refine List.map_congr_left fun x _ => ?_
  show mapA g (.tr x) = .tr x
  simp [mapA, h]
theorem scalL_tcA : scalL (tcA ts) = true := by
  unfold tcA
  induction tcs ts with
  | nil => rfl
  | cons x l ih => simp only [List.map_cons, scalL, scal, ih, Bool.and_self]
theorem idsL_tcA : idsL (tcA ts) = [] := by
  unfold tcA
  induction tcs ts with
  | nil => rfl
  | cons x l ih => simp only [List.map_cons, idsL, idsA, ih, List.nil_append]
theorem cellsD_tcA : cellsD (tcA ts) = some (tcs ts) := by
  unfold tcA
  induction tcs ts with
  | nil => rfl
  | cons x l ih => simp only [List.map_cons, cellsD, cellD, ih]
theorem tcA_nil : tcA [] = [] := rfl
end
attribute [go_sem] tcA_len tcs_len tcA_take tcs_take rnL_tcA cgL_tcA scalL_tcA idsL_tcA cellsD_tcA tcA_nil tens netA ownN stoN stoNF
end Go.Proofs.YtodlbhjnmdhjiaaDoor
