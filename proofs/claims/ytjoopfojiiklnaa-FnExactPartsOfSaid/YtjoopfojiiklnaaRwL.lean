/-
  Rows of slices of ints that are owned. No condition.
-/
import Derived.Test.YtjoopfojiiklnaaLiftI
import Derived.Test.YtjoopfojiiklnaaLiftJ
import Derived.Test.YtjoopfojiiklnaaDecA
namespace Go.Proofs.Ytjoopfojiiklnaa
open Go.RowKit Go.Lift Plain
set_option linter.unusedSimpArgs false
set_option linter.unusedVariables false
set_option maxRecDepth 100000

theorem Wk.ad1b {m0 m : Nat} (dead : List Bool) (k z q : Nat) (g : Bool) {τ : Sto} {A B : List AV} {e : List AV} {n : Nat} {r : Root} {l : List D} (hm : m0 ≤ m) (hτ : τ.length = m) (hA : A.length = q)
    (hk : τ[k]? = some (some ⟨z, g, A ++ [.own m 0 n] ++ B⟩)) (hl : treL r.cells = some l) (hn : l.length = n * r.e) :
    Wk m0 e (τ ++ [some r]) (dropF m dead e) (keepS m (τ.set k (some ⟨z, g, A ++ [.tr (.sl n l)] ++ B⟩))) := by
  subst hA
  have h := Wk.ad1 (m0 := m0) (e := e) dead k A.length n (R := ⟨z, g, A ++ [.own m 0 n] ++ B⟩) (R' := r) hm hτ hk (by simp) hl hn
  have e1 : (A ++ [AV.own m 0 n] ++ B).set A.length (.tr (.sl n l)) = A ++ [.tr (.sl n l)] ++ B := by simp [List.set_append]
  simp only [e1] at h
  exact h
theorem Wk.ad1s {m0 m : Nat} (dead : List Bool) (k z q : Nat) (g : Bool) {τ : Sto} {A : List AV} {e : List AV} {n : Nat} {r : Root} {l : List D} (hm : m0 ≤ m) (hτ : τ.length = m) (hA : A.length = q)
    (hk : τ[k]? = some (some ⟨z, g, A ++ [.own m 0 n]⟩)) (hl : treL r.cells = some l) (hn : l.length = n * r.e) :
    Wk m0 e (τ ++ [some r]) (dropF m dead e) (keepS m (τ.set k (some ⟨z, g, A ++ [.tr (.sl n l)]⟩))) := by
  have h := Wk.ad1b (m0 := m0) (e := e) dead k z q g (B := []) hm hτ hA (by rw [List.append_nil]; exact hk) hl hn
  rw [List.append_nil] at h
  exact h
theorem Wk.sp1 {m0 : Nat} (z q : Nat) (g : Bool) (A B : List AV) {e : List AV} {n : Nat} {l : List D} (hm : m0 ≤ 1) (hA : A.length = q) (hA' : ∀ f : AV → AV, (∀ x, f (.tr x) = .tr x) → mapL f A = A) (hB' : ∀ f : AV → AV, (∀ x, f (.tr x) = .tr x) → mapL f B = B)
    (he : ∀ i j k' n, mapL (spG i j k' n) e = e) :
    Wk m0 e [some ⟨z, g, A ++ [.tr (.sl n l)] ++ B⟩] e [some ⟨z, g, A ++ [.own 1 0 n] ++ B⟩, some ⟨1, false, l.map cellT⟩] := by
  subst hA
  have f : ∀ i j k' n x, spG i j k' n (.tr x) = .tr x := fun _ _ _ _ _ => rfl
  exact Wk.split (m0 := m0) 0 A.length 1 n (e := e) (σ := [some ⟨z, g, A ++ [.tr (.sl n l)] ++ B⟩]) (l := l) (by simpa using hm) rfl (by simp) (he _ _ _ _)
    (σ' := [some ⟨z, g, A ++ [.own 1 0 n] ++ B⟩, some ⟨1, false, l.map cellT⟩]) (by
      simp only [spS, List.map_cons, List.map_nil, Option.map_some, List.length_cons, List.length_nil, List.mapIdx_cons, List.mapIdx_nil, if_true, mapL_eq, List.map_append]
      rw [← mapL_eq, ← mapL_eq, hA' _ (f _ _ _ _), hB' _ (f _ _ _ _)]
      simp [mapA, spG, List.set_append])
def trL (L : List (List Int)) : List AV := (ldv L).map .tr
section
variable {L M : List (List Int)} {k : Nat} {m : Int}
theorem trL_len : (trL L).length = L.length := by simp [trL, ldv]
theorem trL_nil : trL [] = [] := rfl
theorem trL_app (a b : List (List Int)) : trL (a ++ b) = trL a ++ trL b := by simp [trL, ldv]
theorem trL_one (b : List Int) : trL [b] = [.tr (ints b)] := rfl
theorem trL_take : (trL L).take L.length = trL L := List.take_of_length_le (by rw [trL_len]; exact Nat.le_refl _)
theorem trL_take1 : (trL L).take (L.length * 1) = trL L := List.take_of_length_le (by rw [trL_len]; omega)
theorem rnL_trL (ρ : Nat → Option Nat) : rnL ρ (trL L) = trL L := by
  rw [rnL_eq, trL, List.map_map]
  exact List.map_congr_left fun x _ => rfl
theorem cgL_trL (gv : List Nat) (M : List Nat) : cgL gv M (trL L) = trL L := by
  rw [cgL_eq, trL, List.map_map]
  exact List.map_congr_left fun x _ => rfl
theorem mapL_trL (g : AV → AV) (h : ∀ x, g (.tr x) = .tr x) : mapL g (trL L) = trL L := by
  rw [mapL_eq, trL, List.map_map]
  exact List.map_congr_left fun x _ => h x
theorem scalL_trL : scalL (trL L) = true := by
  unfold trL
  generalize ldv L = l
  induction l with
  | nil => rfl
  | cons x l ih => simp only [List.map_cons, scalL, scal, ih, Bool.and_self, Bool.true_and, Bool.and_true]
theorem idsL_trL : idsL (trL L) = [] := by
  unfold trL
  generalize ldv L = l
  induction l with
  | nil => rfl
  | cons x l ih => simp only [List.map_cons, idsL, idsA, ih, List.append_nil, List.nil_append]
theorem cellsD_trL : cellsD (trL L) = some (ldv L) := by
  unfold trL
  generalize ldv L = l
  induction l with
  | nil => rfl
  | cons x l ih => simp only [List.map_cons, cellsD, cellD, ih]
end
attribute [go_sem] trL_len trL_take trL_take1 rnL_trL cgL_trL scalL_trL idsL_trL cellsD_trL trL_nil
def markLs : List (List Int) → Int → List (List Int)
  | [], _ => []
  | t :: l, m => markL t m :: markLs l (m + t.length)
theorem markLs_len : ∀ (ts : List (List Int)) (m : Int), (markLs ts m).length = ts.length
  | [], _ => rfl
  | t :: l, m => by simp [markLs, markLs_len l]
theorem markLs_app : ∀ (a b : List (List Int)) (m : Int), markLs (a ++ b) m = markLs a m ++ markLs b (m + totL a)
  | [], b, m => by simp [markLs, totL]
  | t :: l, b, m => by simp [markLs, totL, markLs_app l b, Int.add_assoc]
theorem markLs_get : ∀ {L : List (List Int)} {m : Int} {k : Nat} (hk : k < L.length), (markLs L m)[k]? = some (markL L[k] (m + totL (L.take k)))
  | t :: l, m, 0, _ => by simp [markLs, totL]
  | t :: l, m, k + 1, h => by
    have := markLs_get (L := l) (m := m + t.length) (k := k) (by simpa using h)
    simp only [markLs, List.getElem?_cons_succ, List.take_succ_cons, totL, List.getElem_cons_succ]
    rw [this]
    congr 2
    push_cast
    omega
theorem trM_take {L : List (List Int)} {m : Int} : (trL (markLs L m)).take L.length = trL (markLs L m) := List.take_of_length_le (by rw [trL_len, markLs_len]; exact Nat.le_refl _)
attribute [go_sem] trM_take
def mkLTo (L : List (List Int)) (m : Int) (k : Nat) : List (List Int) := markLs (L.take k) m ++ L.drop k
section
variable {L : List (List Int)} {m : Int} {k : Nat}
theorem mkLTo_zero : mkLTo L m 0 = L := by simp [mkLTo, markLs]
theorem mkLTo_all (hk : L.length ≤ k) : mkLTo L m k = markLs L m := by simp [mkLTo, List.take_of_length_le hk, List.drop_of_length_le hk]
theorem mkL_len (hk : k ≤ L.length) : (trL (markLs (L.take k) m)).length = k := by rw [trL_len, markLs_len, List.length_take]; omega
theorem mkLTo_split (hk : k < L.length) : trL (mkLTo L m k) = trL (markLs (L.take k) m) ++ [.tr (.sl L[k].length (dv L[k]))] ++ trL (L.drop (k + 1)) := by
  have e4 : L.drop k = [L[k]] ++ L.drop (k + 1) := List.drop_eq_getElem_cons hk
  rw [mkLTo, e4, trL_app, trL_app, List.append_assoc]
  rfl
theorem mkLTo_next (hk : k < L.length) : trL (markLs (L.take k) m) ++ [.tr (.sl L[k].length (dv (markL L[k] (m + totL (L.take k)))))] ++ trL (L.drop (k + 1)) = trL (mkLTo L m (k + 1)) := by
  have e : trL (mkLTo L m (k + 1)) = trL (markLs (L.take k) m) ++ trL [markL L[k] (m + totL (L.take k))] ++ trL (L.drop (k + 1)) := by
    rw [mkLTo, take_ss hk, markLs_app, trL_app, trL_app]
    rfl
  rw [e, trL_one]
  simp only [ints, markL_len]
end
attribute [go_sem] markLs_len
structure LSz (m : Nat) (L : List (List Int)) : Prop where
  l : L.length ≤ m
  e : ∀ b ∈ L, Sz m b
end Go.Proofs.Ytjoopfojiiklnaa
