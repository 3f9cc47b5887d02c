/-
  LIFT: all slices of a row become roots, and all roots behind become slices of a row. No condition.
-/
import Derived.Test.YtlijfhfhonalgaaNetH
import Derived.Test.YtlijfhfhonalgaaLiftJ
namespace Go.Proofs.Ytlijfhfhonalgaa
open Go.RowKit Go.Lift
set_option linter.unusedSimpArgs false
set_option linter.unusedVariables false
set_option maxRecDepth 100000
def ownS (b : Nat) : List (List Int) → List AV
  | [] => []
  | xs :: l => .own b 0 xs.length :: ownS (b + 1) l
def trS (l : List (List Int)) : List AV := l.map fun xs => .tr (ints xs)
def rootS (l : List (List Int)) : Sto := l.map fun xs => some ⟨1, false, iv xs⟩
section
variable {b q k m : Nat} {l l' : List (List Int)} {xs : List Int}
theorem ownS_len : ∀ {b : Nat} {l : List (List Int)}, (ownS b l).length = l.length
  | _, [] => rfl
  | b, xs :: l => by simp [ownS, ownS_len (l := l)]
theorem rootS_len : (rootS l).length = l.length := by simp [rootS]
theorem trS_cons : trS (xs :: l) = .tr (ints xs) :: trS l := rfl
theorem rootS_cons : rootS (xs :: l) = some ⟨1, false, iv xs⟩ :: rootS l := rfl
theorem trS_app : trS (l ++ l') = trS l ++ trS l' := by simp [trS]
theorem rootS_app : rootS (l ++ l') = rootS l ++ rootS l' := by simp [rootS]
theorem ownS_app : ∀ {b : Nat} {l : List (List Int)}, ownS b (l ++ l') = ownS b l ++ ownS (b + l.length) l'
  | b, [] => rfl
  | b, xs :: l => by simp only [List.cons_append, ownS, ownS_app (b := b + 1) (l := l), List.length_cons, show b + 1 + l.length = b + (l.length + 1) by omega]
theorem rnL_trS (ρ : Nat → Option Nat) : rnL ρ (trS l) = trS l := by
  rw [rnL_eq, trS, List.map_map]
  rfl
theorem rootS_rn (ρ : Nat → Option Nat) : (rootS l).map (Option.map fun R => { R with cells := rnL ρ R.cells }) = rootS l := by
  rw [rootS, List.map_map]
  refine List.map_congr_left fun xs _ => ?_
  simp [rnL_iv]
theorem shS_rootS : shS q (rootS l) = rootS l := rootS_rn _
theorem shS_cons (x : Option Root) (σ : Sto) : shS q (x :: σ) = x.map (fun R => { R with cells := rnL (sh q) R.cells }) :: shS q σ := rfl
theorem rnL_ownS_sh : ∀ {b : Nat} {l : List (List Int)}, rnL (sh q) (ownS b l) = ownS (b + q) l
  | _, [] => rfl
  | b, xs :: l => by simp only [ownS, rnL, Lift.rn, sh, rnL_ownS_sh (l := l), show b + 1 + q = b + q + 1 by omega]
theorem rnL_ownS_fg (h : k < b) : rnL (fg k) (ownS b l) = ownS b l := by
  induction l generalizing b with
  | nil => rfl
  | cons xs l ih => simp only [ownS, rnL, Lift.rn, fg, if_neg (show ¬ b = k by omega), ih (b := b + 1) (by omega)]
theorem rnL_ownS_cut (h : b + l.length ≤ m) : rnL (cut m) (ownS b l) = ownS b l := by
  induction l generalizing b with
  | nil => rfl
  | cons xs l ih =>
    simp only [List.length_cons] at h
    simp only [ownS, rnL, Lift.rn, cut, if_pos (show b < m by omega), ih (b := b + 1) (by omega)]
theorem cellsI_ownS : ∀ {b : Nat} {l : List (List Int)}, cellsI (ownS b l) = some (ownS b l)
  | _, [] => rfl
  | b, xs :: l => by simp [ownS, cellsI, cellsI_ownS (l := l)]
theorem ownS_take {n : Nat} (h : l.length ≤ n) : (ownS b l).take n = ownS b l := List.take_of_length_le (by rw [ownS_len]; exact h)
end
theorem rn_cut_cut {m M : Nat} (h : m ≤ M) : (∀ av, Lift.rn (cut m) (Lift.rn (cut M) av) = Lift.rn (cut m) av) ∧ ∀ l, rnL (cut m) (rnL (cut M) l) = rnL (cut m) l := by
  have key : ∀ i, (cut M i = some i) ∨ (cut M i = none ∧ cut m i = none) := fun i => by
    unfold cut
    by_cases h1 : i < M
    · exact .inl (if_pos h1)
    · exact .inr ⟨if_neg h1, if_neg (by omega)⟩
  have h2 : ∀ av, Lift.rn (cut m) (Lift.rn (cut M) av) = Lift.rn (cut m) av := by
    intro av
    refine AV.rec (motive_1 := fun av => Lift.rn (cut m) (Lift.rn (cut M) av) = Lift.rn (cut m) av) (motive_2 := fun l => rnL (cut m) (rnL (cut M) l) = rnL (cut m) l) rfl rfl rfl (fun _ => rfl) ?_ ?_ ?_ ?_ (fun _ _ => rfl) (fun _ => rfl) (fun _ => rfl)
      (fun l h => by simp only [Lift.rn, h]) (fun l h => by simp only [Lift.rn, h]) rfl (fun x l hx hl => by simp only [rnL, hx, hl]) av
    · intro i a b
      rcases key i with e | ⟨e, e'⟩ <;> simp [Lift.rn, e] <;> try simp [e']
    · intro i a
      rcases key i with e | ⟨e, e'⟩ <;> simp [Lift.rn, e] <;> try simp [e']
    · intro i a
      rcases key i with e | ⟨e, e'⟩ <;> simp [Lift.rn, e] <;> try simp [e']
    · intro i a b
      rcases key i with e | ⟨e, e'⟩ <;> simp [Lift.rn, e] <;> try simp [e']
  exact ⟨h2, fun l => by rw [rnL_eq, rnL_eq, rnL_eq, List.map_map]; exact List.map_congr_left fun x _ => h2 x⟩
theorem wk_splitAll {m0 : Nat} (k z : Nat) (g : Bool) {e : List AV} (he : ∀ i j k' n, mapL (spG i j k' n) e = e) : ∀ (l : List (List Int)) (A : List AV) (σ : Sto), m0 ≤ σ.length → σ[k]? = some (some ⟨z, g, A ++ trS l⟩) → noSub σ →
    Wk m0 e σ e (σ.set k (some ⟨z, g, A ++ ownS σ.length l⟩) ++ rootS l)
  | [], A, σ, hm, hk, hn => by
    have hkl : k < σ.length := (List.getElem?_eq_some_iff.1 hk).1
    have : σ.set k (some ⟨z, g, A ++ ownS σ.length []⟩) ++ rootS [] = σ := by
      simp only [ownS, rootS, List.map_nil, List.append_nil]
      simp only [trS, List.map_nil, List.append_nil] at hk
      refine List.ext_getElem? fun i => ?_
      rw [List.getElem?_set]
      by_cases e : k = i
      · subst e; rw [if_pos rfl, if_pos hkl, hk]
      · rw [if_neg e]
    rw [this]
    exact Wk.refl _ _
  | xs :: l, A, σ, hm, hk, hn => by
    have hkl : k < σ.length := (List.getElem?_eq_some_iff.1 hk).1
    have h1 : Wk m0 e σ e _ := Wk.split k A.length 1 xs.length (R := ⟨z, g, A ++ trS (xs :: l)⟩) (l := dv xs) hm (by simp [at_, hk]) (by simp [trS_cons, ints]) (he _ _ _ _) (spS_eq hn hk)
    have q1 := hn.split (j := A.length) (n := xs.length) (e := 1) (l := dv xs) hk
    have c1 : (A ++ trS (xs :: l)).set A.length (.own σ.length 0 xs.length) = (A ++ [.own σ.length 0 xs.length]) ++ trS l := by simp [trS_cons, List.set_append]
    simp only [c1, dv_cellT] at h1 q1
    have h2 := wk_splitAll (m0 := m0) k z g he l (A ++ [.own σ.length 0 xs.length]) _ (by simp; omega) (by rw [List.getElem?_append_left (by simpa using hkl)]; simp [hkl]) q1
    refine (h1.trans h2).eq rfl ?_
    simp [List.set_append, hkl, ownS, rootS_cons]
theorem keepS_app {m M : Nat} {τ σ : Sto} (h : τ.length = m) (hM : M = m + σ.length) : keepS M (τ ++ σ) = τ.map (Option.map fun R => { R with cells := rnL (cut M) R.cells }) ++ σ.map (Option.map fun R => { R with cells := rnL (cut M) R.cells }) := by
  unfold keepS
  rw [List.take_of_length_le (by rw [List.length_append]; omega), List.map_append]
theorem wk_mergeAll {m0 m : Nat} (k z : Nat) (g : Bool) (hm : m0 ≤ m) : ∀ (c : Nat) (l : List (List Int)) (τ : Sto) (A B e : List AV), l.length = c → τ.length = m → τ[k]? = some (some ⟨z, g, A ++ ownS m l ++ B⟩) →
    Wk m0 e (τ ++ rootS l) (rnL (cut m) e) (keepS m (τ.set k (some ⟨z, g, A ++ trS l ++ B⟩))) := by
  intro c
  induction c with
  | zero =>
    intro l τ A B e hl hτ hk
    obtain rfl := List.eq_nil_of_length_eq_zero hl
    have hkl : k < τ.length := (List.getElem?_eq_some_iff.1 hk).1
    have : τ.set k (some ⟨z, g, A ++ trS [] ++ B⟩) = τ := by
      refine List.ext_getElem? fun i => ?_
      rw [List.getElem?_set]
      by_cases e : k = i
      · subst e; rw [if_pos rfl, if_pos hkl, hk]; rfl
      · rw [if_neg e]
    rw [this]
    exact Wk.drop [] m hm (dropF_none _ _) (by simp [rootS])
  | succ c ih =>
    intro l τ A B e hl hτ hk
    obtain ⟨l', xs, rfl⟩ : ∃ l' xs, l = l' ++ [xs] := by
      have hne : l ≠ [] := fun h => by subst h; cases hl
      exact ⟨l.dropLast, l.getLast hne, (List.dropLast_concat_getLast hne).symm⟩
    have hl' : l'.length = c := by simpa using hl
    have hkl : k < τ.length := (List.getElem?_eq_some_iff.1 hk).1
    obtain ⟨M, hM⟩ : ∃ M, M = m + c := ⟨_, rfl⟩
    have hL : (τ ++ rootS l').length = M := by rw [List.length_append, rootS_len]; omega
    have hoS : ownS m (l' ++ [xs]) = ownS m l' ++ [.own M 0 xs.length] := by rw [ownS_app, hl', hM]; rfl
    have e1 : A ++ ownS m (l' ++ [xs]) ++ B = A ++ ownS m l' ++ .own M 0 xs.length :: B := by rw [hoS]; simp
    rw [e1] at hk
    have hj : (A ++ ownS m l' ++ .own M 0 xs.length :: B)[A.length + c]? = some (.own M 0 xs.length) := by
      rw [List.getElem?_append_right (by simp [ownS_len, hl']), List.length_append, ownS_len, hl', Nat.sub_self]
      rfl
    have hset : (A ++ ownS m l' ++ .own M 0 xs.length :: B).set (A.length + c) (.tr (ints xs)) = A ++ ownS m l' ++ .tr (ints xs) :: B := by
      rw [List.set_append_right _ _ (by simp [ownS_len, hl']), List.length_append, ownS_len, hl', Nat.sub_self]
      rfl
    have h1 := Wk.ad1 (m0 := m0) (m := M) (τ := τ ++ rootS l') [] k (A.length + c) xs.length (R := ⟨z, g, A ++ ownS m l' ++ .own M 0 xs.length :: B⟩) (R' := ⟨1, false, iv xs⟩) (l := dv xs) (e := e) (by omega) hL (by rw [List.getElem?_append_left hkl]; exact hk) hj (treL_iv _) (by simp [dv_len])
    have hset' : (A ++ ownS m l' ++ .own M 0 xs.length :: B).set (A.length + c) (.tr (.sl xs.length (dv xs))) = A ++ ownS m l' ++ .tr (ints xs) :: B := hset
    simp only [hset', dropF_none] at h1
    rw [List.set_append_left _ _ hkl, keepS_app (m := m) (by simpa using hτ) (by rw [rootS_len]; omega), rootS_rn] at h1
    have hu : rnL (cut M) (ownS m l') = ownS m l' := rnL_ownS_cut (by omega)
    have h2 := ih l' ((τ.set k (some ⟨z, g, A ++ ownS m l' ++ .tr (ints xs) :: B⟩)).map (Option.map fun R => { R with cells := rnL (cut M) R.cells })) (rnL (cut M) A) (.tr (ints xs) :: rnL (cut M) B) (rnL (cut M) e) hl' (by simpa using hτ)
      (by simp [hkl, rnL_two, hu, rnL, Lift.rn])
    have e2 : τ ++ rootS (l' ++ [xs]) = τ ++ rootS l' ++ [some ⟨1, false, iv xs⟩] := by rw [rootS_app, List.append_assoc]; rfl
    rw [e2]
    refine (h1.trans h2).eq ((rn_cut_cut (by omega)).2 _) ?_
    unfold keepS
    refine List.ext_getElem? fun i => ?_
    simp only [List.getElem?_map, List.getElem?_take]
    by_cases hi : i < m
    · rw [if_pos hi, if_pos hi, List.getElem?_set, List.getElem?_set]
      by_cases e : k = i
      · subst e
        have hcc := (rn_cut_cut (m := m) (M := M) (by omega)).2
        simp only [if_true, List.length_map, List.length_set, if_pos hkl, Option.map_some, rnL_two, rnL, Lift.rn, rnL_trS, hcc, trS_app, trS_cons]
        simp [trS, rnL, Lift.rn]
      · rw [if_neg e, if_neg e, List.getElem?_map, List.getElem?_set, if_neg e]
        cases hx : τ[i]? with
        | none => rfl
        | some x =>
          cases x with
          | none => rfl
          | some R => simp [(rn_cut_cut (m := m) (M := M) (by omega)).2]
    · rw [if_neg hi, if_neg hi]
theorem wk_merge {m0 m : Nat} (m' k z : Nat) (g : Bool) {l : List (List Int)} {τ : Sto} {A e : List AV} (hm : m0 ≤ m') (hm' : m' ≤ m) (hτ : τ.length = m) (hk : τ[k]? = some (some ⟨z, g, A ++ ownS m l⟩)) :
    Wk m0 e (τ ++ rootS l) (dropF m' [] e) (keepS m' (τ.set k (some ⟨z, g, A ++ trS l⟩))) := by
  have h1 := wk_mergeAll (m0 := m0) (m := m) k z g (by omega) l.length l τ A [] e rfl hτ (by rw [List.append_nil]; exact hk)
  rw [List.append_nil] at h1
  refine h1.trans (Wk.drop [] m' hm ?_ ?_)
  · rw [dropF_none, dropF_none]; exact (rn_cut_cut hm').2 _
  · unfold keepS
    refine List.ext_getElem? fun i => ?_
    simp only [List.getElem?_map, List.getElem?_take]
    by_cases hi : i < m'
    · rw [if_pos hi, if_pos hi, if_pos (by omega)]
      cases (τ.set k (some ⟨z, g, A ++ trS l⟩))[i]? with
      | none => rfl
      | some x =>
        cases x with
        | none => rfl
        | some R => simp [(rn_cut_cut hm').2]
    · rw [if_neg hi, if_neg hi]
def flT : List Ten → List (List Int)
  | [] => []
  | t :: l => t.labels :: t.dims :: t.data :: flT l
theorem tcA_trS : ∀ {ts : List Ten}, tcA ts = trS (flT ts)
  | [] => rfl
  | t :: l => by
    have := tcA_trS (ts := l)
    simp only [tcA, trS] at this
    simp only [tcA, tcs, List.map_cons, trS, flT, this]
theorem flT_len : ∀ {ts : List Ten}, (flT ts).length = ts.length * 3
  | [] => rfl
  | t :: l => by simp only [flT, List.length_cons, flT_len (ts := l)]; omega
theorem noSub_net {N : Net} : noSub (stoN N) := noSub.mk fun k R hk i j k' n => by
  unfold stoN at hk
  match k, hk with
  | 0, hk => simp at hk; subst hk; exact mapL_spG_tcA _ _ _ _ _
  | 1, hk => simp at hk; subst hk; exact mapL_spG_iv _ _ _ _ _
def stoNS (N : Net) : Sto := some ⟨3, true, ownS 2 (flT N.ts)⟩ :: some ⟨1, true, iv N.os⟩ :: rootS (flT N.ts)
theorem does_splitN {P : Program} {f : FuncId} {args : List AV} {N : Net} (h : Does P f args [] (ownN 0 N) (stoN N)) : Does P f args [] (ownN 0 N) (stoNS N) := by
  refine h.wk0 ?_
  have := wk_splitAll (m0 := 0) 0 3 true (e := [ownN 0 N]) (fun _ _ _ _ => by simp [mapL, mapA, spG, ownN]) (flT N.ts) [] (stoN N) (Nat.zero_le _) (by simp [stoN, tcA_trS]) noSub_net
  exact this
attribute [go_sem] shS_rootS rnL_ownS_sh cellsI_ownS ownS_len rootS_len
end Go.Proofs.Ytlijfhfhonalgaa
