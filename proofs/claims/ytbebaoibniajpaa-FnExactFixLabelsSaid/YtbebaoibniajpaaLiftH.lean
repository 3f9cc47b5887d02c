/-
  LIFT, part 32: rounds whose roots get other names. No condition.
-/
import Derived.Test.YtbebaoibniajpaaLiftG
namespace Go.Lift
open Go.RowKit

/-- The slots that are marked are forgotten, the others get other names. -/
def dropG (ρ : Nat → Option Nat) : List Bool → List AV → List AV
  | _, [] => []
  | [], x :: l => rn ρ x :: dropG ρ [] l
  | b :: bs, x :: l => (bif b then .any else rn ρ x) :: dropG ρ bs l
theorem dropG_len (ρ : Nat → Option Nat) : ∀ (bs : List Bool) (l : List AV), (dropG ρ bs l).length = l.length
  | [], [] => rfl
  | _ :: _, [] => rfl
  | [], x :: l => by simp [dropG, dropG_len ρ [] l]
  | b :: bs, x :: l => by simp [dropG, dropG_len ρ bs l]
theorem dropG_get (ρ : Nat → Option Nat) : ∀ (bs : List Bool) (l : List AV) (j : Nat), (dropG ρ bs l)[j]? = (l[j]?).map fun x => bif bs.getD j false then .any else rn ρ x
  | [], [], _ => by simp [dropG]
  | _ :: _, [], _ => by simp [dropG]
  | [], x :: l, 0 => by simp [dropG]
  | [], x :: l, j + 1 => by
    simp only [dropG, List.getElem?_cons_succ]
    rw [dropG_get ρ [] l j]
    simp
  | b :: bs, x :: l, 0 => by simp [dropG]
  | b :: bs, x :: l, j + 1 => by
    simp only [dropG, List.getElem?_cons_succ]
    rw [dropG_get ρ bs l j]
    simp
theorem Wk.dropG {m0 : Nat} (dead : List Bool) (ids : List Nat) (m : Nat) {e e' : List AV} {σ σ' : Sto} (hm : m0 ≤ m) (hl : m ≤ σ.length) (hn : ids.Nodup) (hi : (ids.all fun k => decide (m ≤ k)) = true) (h1 : dropG (nrmR m ids) dead e = e') (h2 : renS m ids σ = σ') : Wk m0 e σ e' σ' := by
  subst h1 h2
  intro γ φ w vs hS hE
  have hR := ren_nrm hl hn (fun k hk => by have := List.all_eq_true.1 hi k hk; simpa using this) φ
  obtain ⟨hK', hS'⟩ := hS.rn hR
  refine ⟨_, _, hK', hS', RelL.of_get ?_ fun i x hx => ?_, fun k R hk hRk hg => ?_⟩
  · have := hE.len; simpa [dropG_len] using this
  · rw [dropG_get] at hx
    simp only [Option.map_eq_some_iff] at hx
    obtain ⟨y, hy, rfl⟩ := hx
    obtain ⟨v, hv, hr⟩ := hE.get hy
    refine ⟨v, hv, ?_⟩
    cases dead.getD i false
    · exact Rel.rn hR y v hr
    · simp [Rel]
  · have hk' : k < m := by omega
    exact ⟨⟨by simp [hk'], fun hl => by simp [hl, Lab.rn, nrmR, hk']⟩, { R with cells := rnL (nrmR m ids) R.cells }, by rw [at_renS hl, if_pos hk', hRk]; rfl, hg⟩
section
variable {m0 : Nat} {e : List AV} {σ : Sto}
theorem Next.ren {n k : Nat} {E : Nat → List AV} {S : Nat → Sto} (dead : List Bool) (ids : List Nat) (m : Nat) (h : k < n) (hm : m0 ≤ m) (hl : m ≤ σ.length) (hn : ids.Nodup) (hids : (ids.all fun k => decide (m ≤ k)) = true) (h1 : dropG (nrmR m ids) dead e = E (k + 1)) (h2 : renS m ids σ = S (k + 1)) : Next m0 n E S k e σ := Next.mk h (Wk.dropG dead ids m hm hl hn hids h1 h2)
theorem NextI.ren {n k : Nat} {I : Nat → Prop} {E : Nat → List AV} {S : Nat → Sto} (dead : List Bool) (ids : List Nat) (m : Nat) (h : k < n) (hi : I (k + 1)) (hm : m0 ≤ m) (hl : m ≤ σ.length) (hn : ids.Nodup) (hids : (ids.all fun k => decide (m ≤ k)) = true) (h1 : dropG (nrmR m ids) dead e = E (k + 1)) (h2 : renS m ids σ = S (k + 1)) : NextI m0 n I E S k e σ := NextI.mk h hi (Wk.dropG dead ids m hm hl hn hids h1 h2)
theorem NextS.ren {α : Type} {μ : α → Nat} {I : α → Prop} {E : α → List AV} {S : α → Sto} {s : α} (dead : List Bool) (ids : List Nat) (m : Nat) (s' : α) (h : μ s' < μ s) (hi : I s') (hm : m0 ≤ m) (hl : m ≤ σ.length) (hn : ids.Nodup) (hids : (ids.all fun k => decide (m ≤ k)) = true) (h1 : dropG (nrmR m ids) dead e = E s') (h2 : renS m ids σ = S s') : NextS m0 μ I E S s e σ := .mk s' h hi (Wk.dropG dead ids m hm hl hn hids h1 h2)
end
section
variable {ρ : Nat → Option Nat} {a0 a1 a2 a3 a4 a5 a6 a7 a8 a9 a10 a11 a12 a13 a14 a15 : AV} {l : List AV} {b0 b1 b2 b3 b4 b5 b6 b7 b8 b9 b10 b11 b12 b13 b14 b15 b : Bool} {bs : List Bool}
theorem dropG_ch : dropG ρ (b0 :: b1 :: b2 :: b3 :: b4 :: b5 :: b6 :: b7 :: b8 :: b9 :: b10 :: b11 :: b12 :: b13 :: b14 :: b15 :: bs) (ch a0 a1 a2 a3 a4 a5 a6 a7 a8 a9 a10 a11 a12 a13 a14 a15 l) = ch (bif b0 then .any else rn ρ a0) (bif b1 then .any else rn ρ a1) (bif b2 then .any else rn ρ a2) (bif b3 then .any else rn ρ a3) (bif b4 then .any else rn ρ a4) (bif b5 then .any else rn ρ a5) (bif b6 then .any else rn ρ a6) (bif b7 then .any else rn ρ a7) (bif b8 then .any else rn ρ a8) (bif b9 then .any else rn ρ a9) (bif b10 then .any else rn ρ a10) (bif b11 then .any else rn ρ a11) (bif b12 then .any else rn ρ a12) (bif b13 then .any else rn ρ a13) (bif b14 then .any else rn ρ a14) (bif b15 then .any else rn ρ a15) (dropG ρ bs l) := nr rfl
theorem dropG_cons {a0 : AV} : dropG ρ (b :: bs) (a0 :: l) = (bif b then .any else rn ρ a0) :: dropG ρ bs l := nr rfl
theorem dropG_nil : dropG ρ [] [] = [] := nr rfl
end
end Go.Lift
