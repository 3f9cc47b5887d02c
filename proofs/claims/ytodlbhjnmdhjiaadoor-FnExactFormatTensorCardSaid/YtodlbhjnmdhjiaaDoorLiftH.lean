/-
  LIFT, part 32: rounds whose roots get other names. No condition.
-/
import Derived.Test.YtodlbhjnmdhjiaaDoorLiftG
namespace Go.Lift
open Go.RowKit

/-- The slots that are marked are forgotten, the others get other names. -/
def dropG (ρ : Nat → Option Nat) : List Bool → List AV → List AV
  | _, [] => []
  | [], x :: l => rn ρ x :: dropG ρ [] l
  | b :: bs, x :: l => (bif b then .any else rn ρ x) :: dropG ρ bs l
theorem dropG_len (ρ : Nat → Option Nat) : ∀ (bs : List Bool) (l : List AV), (dropG ρ bs l).length = l.length
  | [], [] => rfl
  | _ :: _, [] => rfl
  | [], x :: l => by simp [dropG, dropG_len ρ [] l]
  | b :: bs, x :: l => by simp [dropG, dropG_len ρ bs l]
theorem dropG_get (ρ : Nat → Option Nat) : ∀ (bs : List Bool) (l : List AV) (j : Nat), (dropG ρ bs l)[j]? = (l[j]?).map fun x => bif bs.getD j false then .any else rn ρ x
  | [], [], _ => by simp [dropG]
  | _ :: _, [], _ => by simp [dropG]
  | [], x :: l, 0 => by simp [dropG]
  | [], x :: l, j + 1 => by
    simp only [dropG, List.getElem?_cons_succ]
    rw [dropG_get ρ [] l j]
    simp
  | b :: bs, x :: l, 0 => by simp [dropG]
  | b :: bs, x :: l, j + 1 => by
    simp only [dropG, List.getElem?_cons_succ]
    rw [dropG_get ρ bs l j]
    simp
theorem Wk.dropG {m0 : Nat} (dead : List Bool) (ids : List Nat) (m : Nat) {e e' : List AV} {σ σ' : Sto} (hm : m0 ≤ m) (hl : m ≤ σ.length) (hn : ids.Nodup) (hi : (ids.all fun k => decide (m ≤ k)) = true) (h1 : dropG (nrmR m ids) dead e = e') (h2 : renS m ids σ = σ') : Wk m0 e σ e' σ' := by
  subst h1 h2
  intro γ φ w vs hS hE
  have hR := ren_nrm hl hn (fun k hk => by have := List.all_eq_true.1 hi k hk; simpa using this) φ
  obtain ⟨hK', hS'⟩ := hS.rn hR
  refine ⟨_, _, hK', hS', RelL.of_get ?_ fun i x hx => ?_, fun k R hk hRk hg => ?_⟩
  · have := hE.len; simpa [dropG_len] using this
  · rw [dropG_get] at hx
    simp only [Option.map_eq_some_iff] at hx
    obtain ⟨y, hy, rfl⟩ := hx
    obtain ⟨v, hv, hr⟩ := hE.get hy
    refine ⟨v, hv, ?_⟩
    cases dead.getD i false
    · exact Rel.rn hR y v hr
    · simp [Rel]
  · have hk' : k < m := by omega
    exact ⟨⟨by simp [hk'], fun hl => by simp [hl, Lab.rn, nrmR, hk']⟩, { R with cells := rnL (nrmR m ids) R.cells }, by rw [at_renS hl, if_pos hk', hRk]; rfl, hg⟩
section
variable {m0 : Nat} {e : List AV} {σ : Sto}
theorem Next.ren {n k : Nat} {E : Nat → List AV} {S : Nat → Sto} (dead : List Bool) (ids : List Nat) (m : Nat) (h : k < n) (hm : m0 ≤ m) (hl : m ≤ σ.length) (hn : ids.Nodup) (hids : (ids.all fun k => decide (m ≤ k)) = true) (h1 : dropG (nrmR m ids) dead e = E (k + 1)) (h2 : renS m ids σ = S (k + 1)) : Next m0 n E S k e σ := Next.mk h (Wk.dropG dead ids m hm hl hn hids h1 h2)
theorem NextI.ren {n k : Nat} {I : Nat → Prop} {E : Nat → List AV} {S : Nat → Sto} (dead : List Bool) (ids : List Nat) (m : Nat) (h : k < n) (hi : I (k + 1)) (hm : m0 ≤ m) (hl : m ≤ σ.length) (hn : ids.Nodup) (hids : (ids.all fun k => decide (m ≤ k)) = true) (h1 : dropG (nrmR m ids) dead e = E (k + 1)) (h2 : renS m ids σ = S (k + 1)) : NextI m0 n I E S k e σ := NextI.mk h hi (Wk.dropG dead ids m hm hl hn hids h1 h2)
theorem NextS.ren {α : Type} {μ : α → Nat} {I : α → Prop} {E : α → List AV} {S : α → Sto} {s : α} (dead : List Bool) (ids : List Nat) (m : Nat) (s' : α) (h : μ s' < μ s) (hi : I s') (hm : m0 ≤ m) (hl : m ≤ σ.length) (hn : ids.Nodup) (hids : (ids.all fun k => decide (m ≤ k)) = true) (h1 : dropG (nrmR m ids) dead e = E s') (h2 : renS m ids σ = S s') : NextS m0 μ I E S s e σ := .mk s' h hi (Wk.dropG dead ids m hm hl hn hids h1 h2)
end
section
variable {ρ : Nat → Option Nat} {a0 a1 a2 a3 a4 a5 a6 a7 a8 a9 a10 a11 a12 a13 a14 a15 : AV} {l : List AV} {b0 b1 b2 b3 b4 b5 b6 b7 b8 b9 b10 b11 b12 b13 b14 b15 b : Bool} {bs : List Bool}
theorem dropG_ch : dropG ρ (b0 :: b1 :: b2 :: b3 :: b4 :: b5 :: b6 :: b7 :: b8 :: b9 :: b10 :: b11 :: b12 :: b13 :: b14 :: b15 :: bs) (ch a0 a1 a2 a3 a4 a5 a6 a7 a8 a9 a10 a11 a12 a13 a14 a15 l) = ch (bif b0 then .any else rn ρ a0) (bif b1 then .any else rn ρ a1) (bif b2 then .any else rn ρ a2) (bif b3 then .any else rn ρ a3) (bif b4 then .any else rn ρ a4) (bif b5 then .any else rn ρ a5) (bif b6 then .any else rn ρ a6) (bif b7 then .any else rn ρ a7) (bif b8 then .any else rn ρ a8) (bif b9 then .any else rn ρ a9) (bif b10 then .any else rn ρ a10) (bif b11 then .any else rn ρ a11) (bif b12 then .any else rn ρ a12) (bif b13 then .any else rn ρ a13) (bif b14 then .any else rn ρ a14) (bif b15 then .any else rn ρ a15) (dropG ρ bs l) := nr rfl
theorem dropG_cons {a0 : AV} : dropG ρ (b :: bs) (a0 :: l) = (bif b then .any else rn ρ a0) :: dropG ρ bs l := nr rfl
theorem dropG_nil : dropG ρ [] [] = [] := nr rfl
end

/-! ### Slices taken into a row, the roots behind it given up -/
theorem rn_cut_fg {m k : Nat} (h : m ≤ k) : (∀ av, Lift.rn (cut m) (Lift.rn (fg k) av) = Lift.rn (cut m) av) ∧ ∀ l, rnL (cut m) (rnL (fg k) l) = rnL (cut m) l := by
  have key : ∀ i, (i = k ∧ cut m i = none) ∨ (i ≠ k) := fun i => by
    by_cases e : i = k
    · exact .inl ⟨e, by unfold cut; rw [if_neg (by omega)]⟩
    · exact .inr e
  have h2 : ∀ (av : AV), Lift.rn (cut m) (Lift.rn (fg k) av) = Lift.rn (cut m) av := by
    intro av
    refine AV.rec (motive_1 := fun av => Lift.rn (cut m) (Lift.rn (fg k) av) = Lift.rn (cut m) av) (motive_2 := fun l => rnL (cut m) (rnL (fg k) l) = rnL (cut m) l) rfl rfl rfl (fun _ => rfl) ?_ ?_ ?_ ?_ (fun _ _ => rfl) (fun _ => rfl) (fun _ => rfl)
      (fun l h => by simp only [Lift.rn, h]) (fun l h => by simp only [Lift.rn, h]) rfl (fun x l hx hl => by simp only [rnL, hx, hl]) av
    · intro i a b
      rcases key i with ⟨e, h1⟩ | e
      · subst e; simp [Lift.rn, fg, h1]
      · simp [Lift.rn, fg, e]
    · intro i a
      rcases key i with ⟨e, h1⟩ | e
      · subst e; simp [Lift.rn, fg, h1]
      · simp [Lift.rn, fg, e]
    · intro i a
      rcases key i with ⟨e, h1⟩ | e
      · subst e; simp [Lift.rn, fg, h1]
      · simp [Lift.rn, fg, e]
    · intro i a b
      rcases key i with ⟨e, h1⟩ | e
      · subst e; simp [Lift.rn, fg, h1]
      · simp [Lift.rn, fg, e]
  exact ⟨h2, fun l => by rw [rnL_eq, rnL_eq, rnL_eq, List.map_map]; exact List.map_congr_left fun x _ => h2 x⟩
theorem dropF_fg {m k : Nat} (h : m ≤ k) : ∀ (bs : List Bool) (l : List AV), dropF m bs (rnL (fg k) l) = dropF m bs l
  | _, [] => by cases ‹List Bool› <;> rfl
  | [], x :: l => by simp only [rnL, dropF, (rn_cut_fg h).1, dropF_fg h [] l]
  | b :: bs, x :: l => by simp only [rnL, dropF, (rn_cut_fg h).1, dropF_fg h bs l]
theorem Wk.ad1 {m0 m : Nat} {τ : Sto} (dead : List Bool) (k j n : Nat) {R R' : Root} {l : List D} {e : List AV} (hm : m0 ≤ m) (hτ : τ.length = m) (hR : τ[k]? = some (some R)) (hj : R.cells[j]? = some (.own m 0 n)) (hl : treL R'.cells = some l) (hn : l.length = n * R'.e) :
    Wk m0 e (τ ++ [some R']) (dropF m dead e) (keepS m (τ.set k (some { R with cells := R.cells.set j (.tr (.sl n l)) }))) := by
  have hk : k < τ.length := (List.getElem?_eq_some_iff.1 hR).1
  have h1 := Wk.adopt (m0 := m0) k j m n (R := R) (R' := R') (l := l) (e := e) (σ := τ ++ [some R']) hm (by omega) (by simp [at_, List.getElem?_append_left hk, hR]) (by subst hτ; simp [at_]) hj hl hn rfl rfl
  refine h1.trans (Wk.drop dead m hm (dropF_fg (Nat.le_refl _) _ _) ?_)
  unfold keepS
  refine List.ext_getElem? fun i => ?_
  simp only [List.getElem?_map, List.getElem?_take]
  by_cases hi : i < m
  · rw [if_pos hi, if_pos hi]
    unfold adS
    rw [List.getElem?_mapIdx, List.getElem?_map, List.getElem?_set, if_neg (by omega), List.getElem?_append_left (by omega), List.getElem?_set]
    by_cases e : k = i
    · subst e
      rw [if_pos rfl, if_pos hk, hR]
      simp [rnL_eq, List.map_set, List.map_map, Lift.rn]
      congr 1
      refine List.map_congr_left fun x _ => ?_
      exact (rn_cut_fg (Nat.le_refl _)).1 x
    · rw [if_neg e]
      cases hx : τ[i]? with
      | none => simp
      | some x =>
        cases x with
        | none => simp
        | some R0 => simp [if_neg (Ne.symm e), (rn_cut_fg (Nat.le_refl m)).2]
  · rw [if_neg hi, if_neg hi]
theorem adS_get {k j k' n : Nat} {l : List D} {σ : Sto} {i : Nat} (h : i ≠ k') : (adS k j k' n l σ)[i]? = (σ[i]?).map (Option.map fun R => if i = k then { R with cells := (rnL (fg k') R.cells).set j (.tr (.sl n l)) } else { R with cells := rnL (fg k') R.cells }) := by
  unfold adS
  rw [List.getElem?_mapIdx, List.getElem?_map, List.getElem?_set, if_neg (Ne.symm h)]
  cases σ[i]? with
  | none => rfl
  | some x =>
    cases x with
    | none => by_cases e : i = k <;> simp [e]
    | some R => by_cases e : i = k <;> simp [e]
/-- The three roots behind τ become the slices that three cells of root k hold. -/
theorem Wk.ad3 {m0 m : Nat} (dead : List Bool) (k z q : Nat) (g : Bool) {τ : Sto} {A B : List AV} {e : List AV} {n0 n1 n2 : Nat} {r0 r1 r2 : Root} {l0 l1 l2 : List D} (hm : m0 ≤ m) (hτ : τ.length = m) (hA : A.length = q)
    (hk : τ[k]? = some (some ⟨z, g, A ++ [.own m 0 n0, .own (m + 1) 0 n1, .own (m + 2) 0 n2] ++ B⟩))
    (t0 : treL r0.cells = some l0) (t1 : treL r1.cells = some l1) (t2 : treL r2.cells = some l2) (e0 : l0.length = n0 * r0.e) (e1 : l1.length = n1 * r1.e) (e2 : l2.length = n2 * r2.e)
    (f1 : ∀ ρ, rnL ρ r1.cells = r1.cells) (f2 : ∀ ρ, rnL ρ r2.cells = r2.cells) :
    Wk m0 e (τ ++ [some r0, some r1, some r2]) (dropF m dead e) (keepS m (τ.set k (some ⟨z, g, A ++ [.tr (.sl n0 l0), .tr (.sl n1 l1), .tr (.sl n2 l2)] ++ B⟩))) := by
  have hkm : k < m := by rw [← hτ]; exact (List.getElem?_eq_some_iff.1 hk).1
  have a0 : at_ (τ ++ [some r0, some r1, some r2]) m = some r0 := by subst hτ; simp [at_]
  have a1 : at_ (τ ++ [some r0, some r1, some r2]) (m + 1) = some r1 := by subst hτ; simp [at_]
  have a2 : at_ (τ ++ [some r0, some r1, some r2]) (m + 2) = some r2 := by subst hτ; simp [at_]
  have ak : at_ (τ ++ [some r0, some r1, some r2]) k = some ⟨z, g, A ++ [.own m 0 n0, .own (m + 1) 0 n1, .own (m + 2) 0 n2] ++ B⟩ := by simp [at_, List.getElem?_append_left (show k < τ.length by omega), hk]
  have g0 : (A ++ [AV.own m 0 n0, .own (m + 1) 0 n1, .own (m + 2) 0 n2] ++ B)[q]? = some (.own m 0 n0) := by subst hA; simp
  have g1 : (A ++ [AV.own m 0 n0, .own (m + 1) 0 n1, .own (m + 2) 0 n2] ++ B)[q + 1]? = some (.own (m + 1) 0 n1) := by subst hA; simp
  have g2 : (A ++ [AV.own m 0 n0, .own (m + 1) 0 n1, .own (m + 2) 0 n2] ++ B)[q + 2]? = some (.own (m + 2) 0 n2) := by subst hA; simp
  have h1 := Wk.adopt (m0 := m0) k q m n0 (e := e) hm (by omega) ak a0 g0 t0 e0 rfl rfl
  have b1 := at_adS (k := k) (j := q) (k' := m) (n := n0) (l := l0) (σ := τ ++ [some r0, some r1, some r2]) (m + 1)
  have b2 := at_adS (k := k) (j := q) (k' := m) (n := n0) (l := l0) (σ := τ ++ [some r0, some r1, some r2]) (m + 2)
  have bk := at_adS (k := k) (j := q) (k' := m) (n := n0) (l := l0) (σ := τ ++ [some r0, some r1, some r2]) k
  rw [if_neg (by omega), a1, Option.map_some, if_neg (by omega), f1] at b1
  rw [if_neg (by omega), a2, Option.map_some, if_neg (by omega), f2] at b2
  rw [if_neg (by omega), ak, Option.map_some, if_pos rfl] at bk
  generalize hS1 : adS k q m n0 l0 (τ ++ [some r0, some r1, some r2]) = S1 at h1 b1 b2 bk
  have h2 := Wk.adopt (m0 := m0) k (q + 1) (m + 1) n1 (e := rnL (fg m) e) (by omega) (by omega) bk b1 (by
    rw [List.getElem?_set, if_neg (by omega), rnL_eq, List.getElem?_map, g1]
    simp [Lift.rn, fg]) t1 e1 rfl rfl
  have c2 := at_adS (k := k) (j := q + 1) (k' := m + 1) (n := n1) (l := l1) (σ := S1) (m + 2)
  have ck := at_adS (k := k) (j := q + 1) (k' := m + 1) (n := n1) (l := l1) (σ := S1) k
  rw [if_neg (by omega), b2, Option.map_some, if_neg (by omega)] at c2
  simp only [f2] at c2
  rw [if_neg (by omega), bk, Option.map_some, if_pos rfl] at ck
  generalize hS2 : adS k (q + 1) (m + 1) n1 l1 S1 = S2 at h2 c2 ck
  have h3 := Wk.adopt (m0 := m0) k (q + 2) (m + 2) n2 (e := rnL (fg (m + 1)) (rnL (fg m) e)) (by omega) (by omega) ck c2 (by
    rw [List.getElem?_set, if_neg (by omega), rnL_eq, List.getElem?_map, List.getElem?_set, if_neg (by omega), rnL_eq, List.getElem?_map, g2]
    simp [Lift.rn, fg]) t2 e2 rfl rfl
  refine h1.trans (h2.trans (h3.trans (Wk.drop dead m hm ?_ ?_)))
  · rw [dropF_fg (by omega), dropF_fg (by omega), dropF_fg (by omega)]
  · refine List.ext_getElem? fun i => ?_
    unfold keepS
    simp only [List.getElem?_map, List.getElem?_take]
    by_cases hi : i < m
    · rw [if_pos hi, if_pos hi, adS_get (by omega), ← hS2, adS_get (by omega), ← hS1, adS_get (by omega), List.getElem?_append_left (by omega), List.getElem?_set]
      by_cases e : k = i
      · subst e
        rw [if_pos rfl, if_pos (by omega), hk]
        simp only [Option.map_some, if_true]
        simp only [rnL_eq, List.map_set, Lift.rn, List.map_map, List.map_append, List.map_cons, List.map_nil]
        have hc : ∀ x : AV, Lift.rn (cut m) (Lift.rn (fg (m + 2)) (Lift.rn (fg (m + 1)) (Lift.rn (fg m) x))) = Lift.rn (cut m) x := fun x => by
          rw [(rn_cut_fg (by omega)).1, (rn_cut_fg (by omega)).1, (rn_cut_fg (by omega)).1]
        subst hA
        have hc' : (Lift.rn (cut m) ∘ Lift.rn (fg (m + 2)) ∘ Lift.rn (fg (m + 1)) ∘ Lift.rn (fg m)) = Lift.rn (cut m) := funext hc
        rw [hc']
        simp [List.set_append]
      · rw [if_neg e]
        cases hx : τ[i]? with
        | none => simp
        | some x =>
          cases x with
          | none => simp
          | some R0 =>
            simp only [Option.map_some, if_neg (Ne.symm e)]
            rw [(rn_cut_fg (by omega)).2, (rn_cut_fg (by omega)).2, (rn_cut_fg (by omega)).2]
    · rw [if_neg hi, if_neg hi]
theorem Wk.eq {m0 : Nat} {e e' e1 : List AV} {σ σ' σ1 : Sto} (h : Wk m0 e σ e1 σ1) (h1 : e1 = e') (h2 : σ1 = σ') : Wk m0 e σ e' σ' := h1 ▸ h2 ▸ h
/-- Three slices of a row become roots of their own. -/
theorem Wk.sp3 {m0 : Nat} (z q : Nat) (g : Bool) (A B : List AV) {e : List AV} {n0 n1 n2 : Nat} {l0 l1 l2 : List D} (hm : m0 ≤ 1) (hA : A.length = q) (hA' : ∀ f : AV → AV, (∀ x, f (.tr x) = .tr x) → mapL f A = A) (hB' : ∀ f : AV → AV, (∀ x, f (.tr x) = .tr x) → mapL f B = B)
    (he : ∀ i j k' n, mapL (spG i j k' n) e = e) :
    Wk m0 e [some ⟨z, g, A ++ [.tr (.sl n0 l0), .tr (.sl n1 l1), .tr (.sl n2 l2)] ++ B⟩] e [some ⟨z, g, A ++ [.own 1 0 n0, .own 2 0 n1, .own 3 0 n2] ++ B⟩, some ⟨1, false, l0.map cellT⟩, some ⟨1, false, l1.map cellT⟩, some ⟨1, false, l2.map cellT⟩] := by
  subst hA
  have f : ∀ i j k' n x, spG i j k' n (.tr x) = .tr x := fun _ _ _ _ _ => rfl
  have hT : ∀ i j k' n (l : List D), mapL (spG i j k' n) (l.map cellT) = l.map cellT := fun i j k' n l => by
    rw [mapL_eq, List.map_map]
    refine List.map_congr_left fun x _ => ?_
    cases x <;> rfl
  have h1 := Wk.split (m0 := m0) 0 A.length 1 n0 (e := e) (σ := [some ⟨z, g, A ++ [.tr (.sl n0 l0), .tr (.sl n1 l1), .tr (.sl n2 l2)] ++ B⟩]) (l := l0) (by simpa using hm) rfl (by simp) (he _ _ _ _)
    (σ' := [some ⟨z, g, A ++ [.own 1 0 n0, .tr (.sl n1 l1), .tr (.sl n2 l2)] ++ B⟩, some ⟨1, false, l0.map cellT⟩]) (by
      simp only [spS, List.map_cons, List.map_nil, Option.map_some, List.length_cons, List.length_nil, List.mapIdx_cons, List.mapIdx_nil, if_true, mapL_eq, List.map_append]
      rw [← mapL_eq, ← mapL_eq, hA' _ (f _ _ _ _), hB' _ (f _ _ _ _)]
      simp [mapA, spG, List.set_append])
  have h2 := Wk.split (m0 := m0) 0 (A.length + 1) 1 n1 (e := e) (σ := [some ⟨z, g, A ++ [.own 1 0 n0, .tr (.sl n1 l1), .tr (.sl n2 l2)] ++ B⟩, some ⟨1, false, l0.map cellT⟩]) (l := l1) (by simp; omega) rfl (by simp) (he _ _ _ _)
    (σ' := [some ⟨z, g, A ++ [.own 1 0 n0, .own 2 0 n1, .tr (.sl n2 l2)] ++ B⟩, some ⟨1, false, l0.map cellT⟩, some ⟨1, false, l1.map cellT⟩]) (by
      simp only [spS, List.map_cons, List.map_nil, Option.map_some, List.length_cons, List.length_nil, List.mapIdx_cons, List.mapIdx_nil, if_true, mapL_eq, List.map_append]
      rw [← mapL_eq, ← mapL_eq, ← mapL_eq, hA' _ (f _ _ _ _), hB' _ (f _ _ _ _), hT]
      simp [mapA, spG, List.set_append])
  have h3 := Wk.split (m0 := m0) 0 (A.length + 2) 1 n2 (e := e) (σ := [some ⟨z, g, A ++ [.own 1 0 n0, .own 2 0 n1, .tr (.sl n2 l2)] ++ B⟩, some ⟨1, false, l0.map cellT⟩, some ⟨1, false, l1.map cellT⟩]) (l := l2) (by simp; omega) rfl (by simp) (he _ _ _ _)
    (σ' := [some ⟨z, g, A ++ [.own 1 0 n0, .own 2 0 n1, .own 3 0 n2] ++ B⟩, some ⟨1, false, l0.map cellT⟩, some ⟨1, false, l1.map cellT⟩, some ⟨1, false, l2.map cellT⟩]) (by
      simp only [spS, List.map_cons, List.map_nil, Option.map_some, List.length_cons, List.length_nil, List.mapIdx_cons, List.mapIdx_nil, if_true, mapL_eq, List.map_append]
      rw [← mapL_eq, ← mapL_eq, ← mapL_eq, ← mapL_eq, hA' _ (f _ _ _ _), hB' _ (f _ _ _ _), hT, hT]
      simp [mapA, spG, List.set_append])
  exact h1.trans (h2.trans h3)
theorem rn_cut_nrm {m : Nat} {ids : List Nat} : ∀ av, Lift.rn (cut m) (Lift.rn (nrmR m ids) av) = Lift.rn (cut m) av := by
  have key : ∀ i, (nrmR m ids i = some i ∧ i < m) ∨ (cut m i = none ∧ (nrmR m ids i = none ∨ ∃ p, nrmR m ids i = some p ∧ cut m p = none)) := fun i => by
    unfold nrmR cut
    by_cases e : i < m
    · exact .inl ⟨if_pos e, e⟩
    · refine .inr ⟨if_neg e, ?_⟩
      rw [if_neg e]
      cases posOf i ids with
      | none => exact .inl rfl
      | some p => exact .inr ⟨p + m, rfl, if_neg (by omega)⟩
  intro av
  refine AV.rec (motive_1 := fun av => Lift.rn (cut m) (Lift.rn (nrmR m ids) av) = Lift.rn (cut m) av) (motive_2 := fun l => rnL (cut m) (rnL (nrmR m ids) l) = rnL (cut m) l) rfl rfl rfl (fun _ => rfl) ?_ ?_ ?_ ?_ (fun _ _ => rfl) (fun _ => rfl) (fun _ => rfl)
    (fun l h => by simp only [Lift.rn, h]) (fun l h => by simp only [Lift.rn, h]) rfl (fun x l hx hl => by simp only [rnL, hx, hl]) av
  · intro i a b
    rcases key i with ⟨e, _⟩ | ⟨h1, e | ⟨p, e, h2⟩⟩ <;> simp [Lift.rn, e] <;> simp [h1] <;> simp [h2]
  · intro i a
    rcases key i with ⟨e, _⟩ | ⟨h1, e | ⟨p, e, h2⟩⟩ <;> simp [Lift.rn, e] <;> simp [h1] <;> simp [h2]
  · intro i a
    rcases key i with ⟨e, _⟩ | ⟨h1, e | ⟨p, e, h2⟩⟩ <;> simp [Lift.rn, e] <;> simp [h1] <;> simp [h2]
  · intro i a b
    rcases key i with ⟨e, _⟩ | ⟨h1, e | ⟨p, e, h2⟩⟩ <;> simp [Lift.rn, e] <;> simp [h1] <;> simp [h2]
theorem dropF_dropG {m : Nat} {ids : List Nat} : ∀ (bs : List Bool) (l : List AV), dropF m bs (dropG (nrmR m ids) [] l) = dropF m bs l
  | _, [] => by cases ‹List Bool› <;> rfl
  | [], x :: l => by simp only [dropF, dropG, rn_cut_nrm, dropF_dropG [] l]
  | b :: bs, x :: l => by simp only [dropF, dropG, rn_cut_nrm, dropF_dropG bs l]
/-- The roots in ids (three of them last) become the slices that three cells of root k hold; the others from m on are given up. -/
theorem Wk.gad3 {m0 m : Nat} (dead : List Bool) (ids : List Nat) (k z q : Nat) (g : Bool) {τ σ : Sto} {A B : List AV} {e : List AV} {n0 n1 n2 : Nat} {r0 r1 r2 : Root} {l0 l1 l2 : List D} (hm : m0 ≤ m) (hl : m ≤ σ.length) (hn : ids.Nodup) (hids : (ids.all fun k => decide (m ≤ k)) = true)
    (h2 : renS m ids σ = τ ++ [some r0, some r1, some r2]) (hτ : τ.length = m) (hA : A.length = q)
    (hk : τ[k]? = some (some ⟨z, g, A ++ [.own m 0 n0, .own (m + 1) 0 n1, .own (m + 2) 0 n2] ++ B⟩))
    (t0 : treL r0.cells = some l0) (t1 : treL r1.cells = some l1) (t2 : treL r2.cells = some l2) (e0 : l0.length = n0 * r0.e) (e1 : l1.length = n1 * r1.e) (e2 : l2.length = n2 * r2.e)
    (f1 : ∀ ρ, rnL ρ r1.cells = r1.cells) (f2 : ∀ ρ, rnL ρ r2.cells = r2.cells) :
    Wk m0 e σ (dropF m dead e) (keepS m (τ.set k (some ⟨z, g, A ++ [.tr (.sl n0 l0), .tr (.sl n1 l1), .tr (.sl n2 l2)] ++ B⟩))) :=
  Wk.eq ((Wk.dropG [] ids m hm hl hn hids rfl h2).trans (Wk.ad3 dead k z q g hm hτ hA hk t0 t1 t2 e0 e1 e2 f1 f2)) (dropF_dropG _ _) rfl
/-- A nil slice in a row is seen as a tree of no cells. -/
theorem Wk.nilT {m0 : Nat} (k j : Nat) (R : Root) (e : List AV) (σ : Sto) (hk : σ[k]? = some (some R)) (hj : R.cells[j]? = some .nil) :
    Wk m0 e σ e (σ.set k (some { R with cells := R.cells.set j (.tr (.sl 0 [])) })) := by
  intro γ φ w vs hS hE
  have hR : at_ σ k = some R := by simp [at_, hk]
  have hat := at_set (R' := { R with cells := R.cells.set j (.tr (.sl 0 [])) }) σ hR
  rcases hS.root k R hR with h0 | ⟨cur, T, hh, hg, hl, hcells⟩
  · simp [h0] at hj
  obtain ⟨hK2, hL2, hS2⟩ := hS.setRow hR hh hg cur rfl (R.cells.set j (.tr (.sl 0 []))) (by simpa using hl) (fun i av hav => by
      rw [List.getElem?_set] at hav
      split at hav
      · rename_i hji
        subst hji
        split at hav
        · simp only [Option.some.injEq] at hav
          subst hav
          obtain ⟨v, hv, hr⟩ := hcells j _ hj
          refine ⟨v, hv, ?_⟩
          simp only [CRel] at hr ⊢
          rw [rel_nil hr]
          unfold Tree
          exact ⟨none, 0, rfl, Nat.le_refl _, .inl ⟨rfl, rfl, rfl, rfl⟩⟩
        · cases hav
      · exact hcells i av hav) (fun i x hx => by
      have hij : j ≠ i := fun e => by rw [← e, hj] at hx; cases hx
      exact ⟨⟨x, by rw [List.getElem?_set, if_neg hij]; exact hx⟩, rfl⟩)
  rw [setRow_self w _ cur T (0, 0) hh] at hK2 hL2 hS2
  refine ⟨γ, φ, Kst.refl _ _, by rw [hat]; exact hS2, ?_, fun i Ri hi hRi hgi => ?_⟩
  · rw [hat]
    exact RelL.mono hK2 hL2 _ _ hE
  · obtain ⟨_, R3, h6, _, h7, _⟩ := hL2 i Ri hRi
    exact ⟨Stay.refl, R3, by rw [hat]; exact h6, goff h7 hgi⟩
theorem Wk.ad1r {m0 m : Nat} {τ rest : Sto} (dead : List Bool) (k j n : Nat) {R R' : Root} {l : List D} {e : List AV} (hm : m0 ≤ m) (hτ : τ.length = m) (hR : τ[k]? = some (some R)) (hj : R.cells[j]? = some (.own m 0 n)) (hl : treL R'.cells = some l) (hn : l.length = n * R'.e) :
    Wk m0 e (τ ++ some R' :: rest) (dropF m dead e) (keepS m (τ.set k (some { R with cells := R.cells.set j (.tr (.sl n l)) }))) := by
  have hk : k < τ.length := (List.getElem?_eq_some_iff.1 hR).1
  have h1 := Wk.adopt (m0 := m0) k j m n (R := R) (R' := R') (l := l) (e := e) (σ := τ ++ some R' :: rest) hm (by omega) (by simp [at_, List.getElem?_append_left hk, hR]) (by subst hτ; simp [at_]) hj hl hn rfl rfl
  refine h1.trans (Wk.drop dead m hm (dropF_fg (Nat.le_refl _) _ _) ?_)
  unfold keepS
  refine List.ext_getElem? fun i => ?_
  simp only [List.getElem?_map, List.getElem?_take]
  by_cases hi : i < m
  · rw [if_pos hi, if_pos hi]
    unfold adS
    rw [List.getElem?_mapIdx, List.getElem?_map, List.getElem?_set, if_neg (by omega), List.getElem?_append_left (by omega), List.getElem?_set]
    by_cases e : k = i
    · subst e
      rw [if_pos rfl, if_pos hk, hR]
      simp [rnL_eq, List.map_set, List.map_map, Lift.rn]
      congr 1
      refine List.map_congr_left fun x _ => ?_
      exact (rn_cut_fg (Nat.le_refl _)).1 x
    · rw [if_neg e]
      cases hx : τ[i]? with
      | none => simp
      | some x =>
        cases x with
        | none => simp
        | some R0 => simp [if_neg (Ne.symm e), (rn_cut_fg (Nat.le_refl m)).2]
  · rw [if_neg hi, if_neg hi]
/-- A row's last three cells, nil, nil and the root behind τ, become slices of the row. -/
theorem Wk.nad {m0 m : Nat} (k z q : Nat) (g : Bool) {τ rest : Sto} {A : List AV} {e : List AV} {n2 : Nat} {r2 : Root} {l2 : List D} (hm : m0 ≤ m) (hτ : τ.length = m) (hA : A.length = q)
    (hk : τ[k]? = some (some ⟨z, g, A ++ [.nil, .nil, .own m 0 n2]⟩)) (t2 : treL r2.cells = some l2) (e2 : l2.length = n2 * r2.e) :
    Wk m0 e (τ ++ some r2 :: rest) (dropF m [] e) (keepS m (τ.set k (some ⟨z, g, A ++ [.tr (.sl 0 []), .tr (.sl 0 []), .tr (.sl n2 l2)]⟩))) := by
  have hkm : k < τ.length := (List.getElem?_eq_some_iff.1 hk).1
  subst hA
  have h1 := Wk.nilT (m0 := m0) k A.length _ e (τ ++ some r2 :: rest) (by rw [List.getElem?_append_left hkm]; exact hk) (by simp)
  rw [List.set_append_left _ _ hkm] at h1
  have k1 : (τ.set k (some ⟨z, g, A ++ [.tr (.sl 0 []), .nil, .own m 0 n2]⟩))[k]? = some (some ⟨z, g, A ++ [.tr (.sl 0 []), .nil, .own m 0 n2]⟩) := by simp [hkm]
  have h1' : Wk m0 e (τ ++ some r2 :: rest) e (τ.set k (some ⟨z, g, A ++ [.tr (.sl 0 []), .nil, .own m 0 n2]⟩) ++ some r2 :: rest) := h1.eq rfl (by simp [List.set_append])
  have h2 := Wk.nilT (m0 := m0) k (A.length + 1) _ e (τ.set k (some ⟨z, g, A ++ [.tr (.sl 0 []), .nil, .own m 0 n2]⟩) ++ some r2 :: rest) (by rw [List.getElem?_append_left (by simpa using hkm)]; exact k1) (by simp)
  rw [List.set_append_left _ _ (by simpa using hkm)] at h2
  have h2' : Wk m0 e (τ.set k (some ⟨z, g, A ++ [.tr (.sl 0 []), .nil, .own m 0 n2]⟩) ++ some r2 :: rest) e (τ.set k (some ⟨z, g, A ++ [.tr (.sl 0 []), .tr (.sl 0 []), .own m 0 n2]⟩) ++ some r2 :: rest) := h2.eq rfl (by simp [List.set_append])
  have h3 := Wk.ad1r (m0 := m0) (τ := τ.set k (some ⟨z, g, A ++ [.tr (.sl 0 []), .tr (.sl 0 []), .own m 0 n2]⟩)) (rest := rest) [] k (A.length + 2) n2 (R := ⟨z, g, A ++ [.tr (.sl 0 []), .tr (.sl 0 []), .own m 0 n2]⟩) (R' := r2) (l := l2) (e := e) hm (by simpa using hτ) (by simp [hkm]) (by simp) t2 e2
  refine (h1'.trans h2').trans (h3.eq rfl ?_)
  simp [List.set_append]
end Go.Lift
