/-
 The state of an order as cells: the table of dimensions, the open labels, the tensors that are there, the next number. No condition.
-/
import Derived.Test.YtmkdphmjgfbjaaaPlO
import Derived.Test.YtmkdphmjgfbjaaaEliA
import Derived.Test.YtmkdphmjgfbjaaaCoD
set_option linter.unusedSimpArgs false
set_option linter.unusedVariables false
namespace Go.Proofs.Ytmkdphmjgfbjaaa
open Go.RowKit Go.Lift Plain
def osB (T : List Int) (x y z : AV) : List AV := iv T ++ [x, y, z]
def osD (T : List Int) (x y z : D) : List D := dv T ++ [x, y, z]
section
variable {T : List Int} {x y z : AV} {a b c : D}
theorem osB_len (h : T.length = 100) : (osB T x y z).length = 103 := by simp [osB, iv_len, h]
theorem osB_101 (h : T.length = 100) : (osB T x y z)[101]? = some y := by simp [osB, iv_len, h, List.getElem?_append_right]
theorem osB_102 (h : T.length = 100) : (osB T x y z)[102]? = some z := by simp [osB, iv_len, h, List.getElem?_append_right]
theorem osB_t100 (h : T.length = 100) : (osB T x y z).take 100 = iv T := by
 have : (iv T).length = 100 := by simp [iv_len, dv_len, h]
 rw [osB, List.take_left' this]
theorem osB_p100 (h : T.length = 100) (u : AV) : (osB T x y z).take 100 ++ [u] ++ (osB T x y z).drop 101 = osB T u y z := by
 have h1 : (iv T).length = 100 := by simp [iv_len, dv_len, h]
 have h2 : (iv T ++ [x]).length = 101 := by simp [iv_len, dv_len, h]
 rw [osB_t100 h, osB, show iv T ++ [x, y, z] = (iv T ++ [x]) ++ [y, z] by simp, List.drop_left' h2]
 simp [osB]
theorem osB_p101 (h : T.length = 100) (u : AV) : (osB T x y z).take 101 ++ [u] ++ (osB T x y z).drop 102 = osB T x u z := by
 have h1 : (iv T ++ [x]).length = 101 := by simp [iv_len, dv_len, h]
 have h2 : (iv T ++ [x, y]).length = 102 := by simp [iv_len, dv_len, h]
 rw [osB, show iv T ++ [x, y, z] = (iv T ++ [x]) ++ [y, z] by simp, List.take_left' h1, show iv T ++ [x] ++ [y, z] = (iv T ++ [x, y]) ++ [z] by simp, List.drop_left' h2]
 simp [osB]
theorem osB_p102 (h : T.length = 100) (u : AV) : (osB T x y z).take 102 ++ [u] ++ (osB T x y z).drop 103 = osB T x y u := by
 have h1 : (iv T ++ [x, y]).length = 102 := by simp [iv_len, dv_len, h]
 have h2 : (iv T ++ [x, y, z]).length = 103 := by simp [iv_len, dv_len, h]
 rw [osB, List.drop_eq_nil_of_le (Nat.le_of_eq h2), show iv T ++ [x, y, z] = (iv T ++ [x, y]) ++ [z] by simp, List.take_left' h1]
 simp [osB]
theorem osB_d101 (h : T.length = 100) : ((osB T x y z).drop 101).take 1 = [y] := by
 have h1 : (iv T ++ [x]).length = 101 := by simp [iv_len, dv_len, h]
 rw [osB, show iv T ++ [x, y, z] = (iv T ++ [x]) ++ [y, z] by simp, List.drop_left' h1]; rfl
theorem osB_d102 (h : T.length = 100) : ((osB T x y z).drop 102).take 1 = [z] := by
 have h1 : (iv T ++ [x, y]).length = 102 := by simp [iv_len, dv_len, h]
 rw [osB, show iv T ++ [x, y, z] = (iv T ++ [x, y]) ++ [z] by simp, List.drop_left' h1]; rfl
theorem rnL_osB (ρ : Nat → Option Nat) : rnL ρ (osB T x y z) = osB T (rn ρ x) (rn ρ y) (rn ρ z) := by
 rw [rnL_eq, osB, List.map_append, ← rnL_eq, rnL_iv]; rfl
theorem mapL_osB (k e : Nat) (ls : List D) : mapL (fzG k e ls) (osB T x y z) = osB T (mapA (fzG k e ls) x) (mapA (fzG k e ls) y) (mapA (fzG k e ls) z) := by
 rw [mapL_eq, osB, List.map_append, ← mapL_eq, mapL_fz_iv]; rfl
theorem cellsE_append (s : St) : ∀ (l m : List AV), cellsE s (l ++ m) = match cellsE s l, cellsE s m with
  | some a, some b => some (a ++ b)
  | _, _ => none
 | [], m => by
  rw [List.nil_append, cellsE]
  cases cellsE s m <;> rfl
 | x :: l, m => by
  rw [List.cons_append]
  simp only [cellsE]
  rw [cellsE_append s l m]
  cases cellE s x <;> cases cellsE s l <;> cases cellsE s m <;> rfl
theorem cellsE_iv (s : St) : ∀ xs : List Int, cellsE s (iv xs) = some (dv xs)
 | [] => rfl
 | x :: l => by
  have := cellsE_iv s l
  simp only [iv, dv, List.map_cons, cellsE, cellE, exp1] at this ⊢
  rw [this]
theorem cellsE_osB (s : St) : cellsE s (osB T (.d a) (.d b) (.d c)) = some (osD T a b c) := by
 rw [osB, cellsE_append, cellsE_iv]; rfl
theorem osD_ne : (osD T a b c).isEmpty = false := by
 rw [osD]; cases dv T <;> rfl
theorem osD_len (h : T.length = 100) : (osD T a b c).length = 103 := by simp [osD, dv_len, h]
theorem osD_100 (h : T.length = 100) : (osD T a b c)[100]? = some a := by simp [osD, dv_len, h, List.getElem?_append_right]
theorem osD_101 (h : T.length = 100) : (osD T a b c)[101]? = some b := by simp [osD, dv_len, h, List.getElem?_append_right]
theorem osD_t100 (h : T.length = 100) : (osD T a b c).take 100 = dv T := by
 have : (dv T).length = 100 := by simp [iv_len, dv_len, h]
 rw [osD, List.take_left' this]
end
attribute [go_sem] osB_len osB_101 osB_102 osB_t100 osB_p100 osB_p101 osB_p102 osB_d101 osB_d102 rnL_osB mapL_osB cellsE_osB osD_ne osD_len osD_100 osD_101 osD_t100
def lvD (f : Nat → List Int) (l : List Nat) : List D := l.flatMap fun (i : Nat) => [.int (i : Int), ints (f i)]
def lvA (f : Nat → List Int) (l : List Nat) : List AV := l.flatMap fun (i : Nat) => [.d (.int (i : Int)), .d (ints (f i))]
section
variable {f g : Nat → List Int} {l m : List Nat} {k : Nat}
theorem lvD_len : (lvD f l).length = l.length * 2 := by
 induction l with
 | nil => rfl
 | cons x l ih => rw [lvD, List.flatMap_cons, List.length_append, ← lvD, ih]; simp; omega
theorem lvA_len : (lvA f l).length = l.length * 2 := by
 induction l with
 | nil => rfl
 | cons x l ih => rw [lvA, List.flatMap_cons, List.length_append, ← lvA, ih]; simp; omega
theorem lvA_nil : lvA f [] = [] := nr rfl
theorem lvD_drop : ∀ {l : List Nat} {k : Nat} (h : k < l.length), (lvD f l).drop (k * 2) = .int l[k] :: ints (f l[k]) :: lvD f (l.drop (k + 1))
 | x :: l, 0, _ => by simp [lvD]
 | x :: l, k + 1, h => by
  have := lvD_drop (l := l) (k := k) (by simpa using h)
  rw [lvD, List.flatMap_cons, ← lvD, show (k + 1) * 2 = 2 + k * 2 by omega, ← List.drop_drop]
  simpa using this
theorem lvD_cut (h : k < l.length) : ((lvD f l).drop (k * 2)).take 2 = [.int l[k], ints (f l[k])] := by rw [lvD_drop h]; rfl
theorem lvD_get0 (h : k < l.length) : (lvD f l)[k * 2]? = some (.int l[k]) := by
 have := congrArg (fun x => x[0]?) (lvD_drop (f := f) h)
 simpa using this
theorem lvD_get1 (h : k < l.length) : (lvD f l)[k * 2 + 1]? = some (ints (f l[k])) := by
 have := congrArg (fun x => x[1]?) (lvD_drop (f := f) h)
 simpa using this
theorem lvA_app : lvA f (l ++ m) = lvA f l ++ lvA f m := by simp [lvA]
theorem lvA_snoc (i : Nat) : lvA f l ++ [.d (.int i), .d (.sl (f i).length (dv (f i)))] = lvA f (l ++ [i]) := by simp [lvA, ints]
theorem lvA_congr (h : ∀ i ∈ l, f i = g i) : lvA f l = lvA g l := by
 unfold lvA
 exact flatMap_congr' fun x hx => by rw [h x hx]
theorem lvA_map : lvA f l = (lvD f l).map .d := by
 induction l with
 | nil => rfl
 | cons x l ih => simp only [lvA, lvD, List.flatMap_cons, List.map_append] at ih ⊢; rw [ih]; rfl
theorem cellsD_d : ∀ L : List D, cellsD (L.map .d) = some L
 | [] => rfl
 | x :: l => by simp only [List.map_cons, cellsD, cellD, cellsD_d l]
theorem cellsD_lvA : cellsD (lvA f l) = some (lvD f l) := by rw [lvA_map, cellsD_d]
theorem rnL_lvA (ρ : Nat → Option Nat) : rnL ρ (lvA f l) = lvA f l := by
 rw [rnL_eq, lvA_map, List.map_map]; exact List.map_congr_left fun x _ => rfl
theorem mapL_lvA (k e : Nat) (ls : List D) : mapL (fzG k e ls) (lvA f l) = lvA f l := by
 rw [mapL_eq, lvA_map, List.map_map]; exact List.map_congr_left fun x _ => rfl
end
theorem mapL_app (g : AV → AV) (l m : List AV) : mapL g (l ++ m) = mapL g l ++ mapL g m := by rw [mapL_eq, mapL_eq, mapL_eq, List.map_append]
attribute [go_sem] mapL_app lvD_len lvA_len rnL_lvA mapL_lvA cellsD_lvA lvA_snoc
def lvS (s : Osd) : D := .sl s.nums.length (lvD s.lab s.nums)
theorem natb_ne (q i : Nat) : ((q : Int) != (i : Int)) = (q != i) := by rw [Bool.eq_iff_iff, bne_iff_ne, bne_iff_ne]; omega
end Go.Proofs.Ytmkdphmjgfbjaaa
