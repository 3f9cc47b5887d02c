/-
 LIFT, part 31: loops whose environment is the one before them, but for some slots; loops over states of any kind. No condition.
-/
import Derived.Test.YtmkdphmjgfbjaaaLiftF
namespace Go.Lift
open Go.RowKit
def dropF (m : Nat) : List Bool → List AV → List AV
 | _, [] => []
 | [], x :: l => rn (cut m) x :: dropF m [] l
 | b :: bs, x :: l => (bif b then .any else rn (cut m) x) :: dropF m bs l
theorem dropF_len (m : Nat) : ∀ (bs : List Bool) (l : List AV), (dropF m bs l).length = l.length
 | [], [] => rfl
 | _ :: _, [] => rfl
 | [], x :: l => by simp [dropF, dropF_len m [] l]
 | b :: bs, x :: l => by simp [dropF, dropF_len m bs l]
theorem dropF_get (m : Nat) : ∀ (bs : List Bool) (l : List AV) (j : Nat), (dropF m bs l)[j]? = (l[j]?).map fun x => bif bs.getD j false then .any else rn (cut m) x
 | [], [], _ => by simp [dropF]
 | _ :: _, [], _ => by simp [dropF]
 | [], x :: l, 0 => by simp [dropF]
 | [], x :: l, j + 1 => by
  simp only [dropF, List.getElem?_cons_succ]
  rw [dropF_get m [] l j]
  simp
 | b :: bs, x :: l, 0 => by simp [dropF]
 | b :: bs, x :: l, j + 1 => by
  simp only [dropF, List.getElem?_cons_succ]
  rw [dropF_get m bs l j]
  simp
theorem Wk.drop {m0 : Nat} (dead : List Bool) (m : Nat) {e e' : List AV} {σ σ' : Sto} (hn : m0 ≤ m) (h1 : dropF m dead e = e') (h2 : keepS m σ = σ') : Wk m0 e σ e' σ' := by
 subst h1 h2
 intro γ φ w vs hS hE
 obtain ⟨hK', hS'⟩ := hS.rn (ren_cut m σ φ)
 refine ⟨_, φ, hK', hS', RelL.of_get ?_ fun i x hx => ?_, fun k R hk hR hg => ?_⟩
 ·have := hE.len; simpa [dropF_len] using this
 ·rw [dropF_get] at hx
  simp only [Option.map_eq_some_iff] at hx
  obtain ⟨y, hy, rfl⟩ := hx
  obtain ⟨v, hv, hr⟩ := hE.get hy
  refine ⟨v, hv, ?_⟩
  cases dead.getD i false
  ·exact Rel.rn (ren_cut m σ φ) y v hr
  ·simp [Rel]
 ·have hk' : k < m := by omega
  exact ⟨⟨rfl, fun hl => by simp [hl, Lab.rn, cut, hk']⟩, { R with cells := rnL (cut m) R.cells }, by rw [at_keepS, if_pos hk', hR]; rfl, hg⟩
def setE : List AV → List (Nat × AV) → List AV
 | e, [] => e
 | e, (i, v) :: l => setE (e.set i v) l
def setC : Sto → Nat → List AV → Sto
 | [], _, _ => []
 | x :: l, 0, c => x.map (fun R => { R with cells := c }) :: l
 | x :: l, k + 1, c => x :: setC l k c
def setS : Sto → List (Nat × List AV) → Sto
 | σ, [] => σ
 | σ, (k, c) :: l => setS (setC σ k c) l
section
variable {e : List AV} {σ : Sto} {i k z : Nat} {cs : List AV} {g0 : Bool}
end
section
variable {e : List AV} {σ : Sto} {i k z : Nat} {v : AV} {l : List (Nat × AV)} {c c' : List AV} {g : Bool} {r : List (Nat × List AV)} {x : Option Root}
theorem setE_nil : setE e [] = e := nr rfl
theorem setE_cons : setE e ((i, v) :: l) = setE (e.set i v) l := nr rfl
theorem setC_zero : setC (some ⟨z, g, c⟩ :: σ) 0 c' = some ⟨z, g, c'⟩ :: σ := nr rfl
theorem setC_succ : setC (x :: σ) (k + 1) c' = x :: setC σ k c' := nr rfl
theorem setS_nil : setS σ [] = σ := nr rfl
theorem setS_cons : setS σ ((k, c) :: r) = setS (setC σ k c) r := nr rfl
end
section
variable {a0 a1 a2 a3 a4 a5 a6 a7 a8 a9 a10 a11 a12 a13 a14 a15 : AV} {l : List AV}
theorem dropF_ch (m : Nat) {b0 b1 b2 b3 b4 b5 b6 b7 b8 b9 b10 b11 b12 b13 b14 b15 : Bool} {bs : List Bool} : dropF m (b0 :: b1 :: b2 :: b3 :: b4 :: b5 :: b6 :: b7 :: b8 :: b9 :: b10 :: b11 :: b12 :: b13 :: b14 :: b15 :: bs) (ch a0 a1 a2 a3 a4 a5 a6 a7 a8 a9 a10 a11 a12 a13 a14 a15 l) = ch (bif b0 then .any else rn (cut m) a0) (bif b1 then .any else rn (cut m) a1) (bif b2 then .any else rn (cut m) a2) (bif b3 then .any else rn (cut m) a3) (bif b4 then .any else rn (cut m) a4) (bif b5 then .any else rn (cut m) a5) (bif b6 then .any else rn (cut m) a6) (bif b7 then .any else rn (cut m) a7) (bif b8 then .any else rn (cut m) a8) (bif b9 then .any else rn (cut m) a9) (bif b10 then .any else rn (cut m) a10) (bif b11 then .any else rn (cut m) a11) (bif b12 then .any else rn (cut m) a12) (bif b13 then .any else rn (cut m) a13) (bif b14 then .any else rn (cut m) a14) (bif b15 then .any else rn (cut m) a15) (dropF m bs l) := nr rfl
theorem dropF_cons (m : Nat) {b : Bool} {bs : List Bool} : dropF m (b :: bs) (a0 :: l) = (bif b then .any else rn (cut m) a0) :: dropF m bs l := nr rfl
theorem dropF_nil (m : Nat) : dropF m [] [] = [] := nr rfl
end
theorem nz : ((0 : Nat) : Int) = 0 := Int.natCast_zero
theorem na (a b : Nat) : ((a + b : Nat) : Int) = a + b := Int.natCast_add a b
theorem n1 : ((1 : Nat) : Int) = 1 := Int.natCast_one
attribute [go_sem] dropF_ch dropF_cons dropF_nil cut cond_true cond_false
section
variable {P : Program} {m0 : Nat} {N : List AV → Sto → Prop} {X : Nat → List AV → Sto → Prop} {R : List AV → Sto → Prop} {e : List AV} {σ : Sto}
theorem wpN_lwk {b : C} {e' : List AV} {σ' : Sto} (h : Wk m0 e σ e' σ') (h2 : wpN P m0 (.loop b) N X R e' σ') : wpN P m0 (.loop b) N X R e σ := by
 unfold wpN at *
 rw [wpC] at *
 obtain ⟨J, ⟨m, e2, σ2, h3, h4⟩, h5⟩ := h2
 exact ⟨J, ⟨m, e2, σ2, h.trans h3, h4⟩, h5⟩
theorem wpN_lp {b : C} (n : Nat) (dead : List Bool) (ov : Nat → List (Nat × AV)) (so : Nat → List (Nat × List AV)) {E : Nat → List AV} {S : Nat → Sto}
  (hE : ∀ k, setE (dropF σ.length dead e) (ov k) = E k := by intro _; (simp only [go_sem, seval, reduceCtorEq]); first | done | rfl) (hS : ∀ k, setS (keepS σ.length σ) (so k) = S k := by intro _; (simp only [go_sem, seval, reduceCtorEq]); first | done | rfl) (hm : m0 ≤ σ.length := by exact Nat.le_of_ble_eq_true rfl) (h1 : dropF σ.length dead e = E 0) (h2 : keepS σ.length σ = S 0)
  (hr : ∀ k, k ≤ n → wpN P m0 b (Next m0 n E S k) X R (E k) (S k)) : wpN P m0 (.loop b) N X R e σ := wpN_upto n E S (Wk.drop dead _ hm h1 h2) hr
theorem wpN_lpI {b : C} (n : Nat) (dead : List Bool) (I : Nat → Prop) (ov : Nat → List (Nat × AV)) (so : Nat → List (Nat × List AV)) {E : Nat → List AV} {S : Nat → Sto}
  (hE : ∀ k, setE (dropF σ.length dead e) (ov k) = E k := by intro _; (simp only [go_sem, seval, reduceCtorEq]); first | done | rfl) (hS : ∀ k, setS (keepS σ.length σ) (so k) = S k := by intro _; (simp only [go_sem, seval, reduceCtorEq]); first | done | rfl) (hi : I 0) (hm : m0 ≤ σ.length := by exact Nat.le_of_ble_eq_true rfl) (h1 : dropF σ.length dead e = E 0) (h2 : keepS σ.length σ = S 0)
  (hr : ∀ k, k ≤ n → I k → wpN P m0 b (NextI m0 n I E S k) X R (E k) (S k)) : wpN P m0 (.loop b) N X R e σ := wpN_uptoI n I E S hi (Wk.drop dead _ hm h1 h2) hr
theorem Next.drop {n k : Nat} {E : Nat → List AV} {S : Nat → Sto} (dead : List Bool) (h : k < n) (hm : m0 ≤ (S (k + 1)).length := by exact Nat.le_of_ble_eq_true rfl) (h1 : dropF (S (k + 1)).length dead e = E (k + 1)) (h2 : keepS (S (k + 1)).length σ = S (k + 1)) : Next m0 n E S k e σ := Next.mk h (Wk.drop dead _ hm h1 h2)
theorem NextI.drop {n k : Nat} {I : Nat → Prop} {E : Nat → List AV} {S : Nat → Sto} (dead : List Bool) (h : k < n) (hi : I (k + 1)) (hm : m0 ≤ (S (k + 1)).length := by exact Nat.le_of_ble_eq_true rfl) (h1 : dropF (S (k + 1)).length dead e = E (k + 1)) (h2 : keepS (S (k + 1)).length σ = S (k + 1)) : NextI m0 n I E S k e σ := NextI.mk h hi (Wk.drop dead _ hm h1 h2)
def NextS {α : Type} (m0 : Nat) (μ : α → Nat) (I : α → Prop) (E : α → List AV) (S : α → Sto) (s : α) (e : List AV) (σ : Sto) : Prop :=
 ∃ s', μ s' < μ s ∧ I s' ∧ Wk m0 e σ (E s') (S s')
theorem NextS.mk {α : Type} {μ : α → Nat} {I : α → Prop} {E : α → List AV} {S : α → Sto} {s : α} (s' : α) (h : μ s' < μ s) (hi : I s') (hw : Wk m0 e σ (E s') (S s')) : NextS m0 μ I E S s e σ := ⟨s', h, hi, hw⟩
theorem NextS.drop {α : Type} {μ : α → Nat} {I : α → Prop} {E : α → List AV} {S : α → Sto} {s : α} (dead : List Bool) (s' : α) (h : μ s' < μ s) (hi : I s') (hm : m0 ≤ (S s').length := by exact Nat.le_of_ble_eq_true rfl) (h1 : dropF (S s').length dead e = E s') (h2 : keepS (S s').length σ = S s') : NextS m0 μ I E S s e σ := .mk s' h hi (Wk.drop dead _ hm h1 h2)
theorem wpN_lpS {α : Type} {b : C} (s0 : α) (μ : α → Nat) (dead : List Bool) (I : α → Prop) (ov : α → List (Nat × AV)) (so : α → List (Nat × List AV)) {E : α → List AV} {S : α → Sto}
  (hE : ∀ s, setE (dropF σ.length dead e) (ov s) = E s := by intro _; (simp only [go_sem, seval, reduceCtorEq]); first | done | rfl) (hS : ∀ s, setS (keepS σ.length σ) (so s) = S s := by intro _; (simp only [go_sem, seval, reduceCtorEq]); first | done | rfl) (hi : I s0) (hm : m0 ≤ σ.length := by exact Nat.le_of_ble_eq_true rfl) (h1 : dropF σ.length dead e = E s0) (h2 : keepS σ.length σ = S s0)
  (hr : ∀ s, I s → wpN P m0 b (NextS m0 μ I E S s) X R (E s) (S s)) : wpN P m0 (.loop b) N X R e σ := by
 have h0 : Wk m0 e σ (E s0) (S s0) := Wk.drop dead _ hm h1 h2
 refine wpN_loop (fun m e σ => ∃ s, I s ∧ m = μ s ∧ e = E s ∧ σ = S s) ⟨_, _, _, h0, s0, hi, rfl, rfl, rfl⟩ ?_
 rintro m e σ ⟨s, hs, rfl, rfl, rfl⟩
 have := hr s hs
 unfold wpN at this ⊢
 refine cast (congrArg (fun K => wpC P m0 b K (E s) (S s)) ?_) this
 funext x e σ
 cases x with
 | normal =>
  refine propext ⟨fun ⟨s', h1, h2, h3⟩ => ⟨_, _, _, h1, h3, s', h2, rfl, rfl, rfl⟩, ?_⟩
  rintro ⟨_, _, _, h1, h3, s', h2, rfl, rfl, rfl⟩
  exact ⟨s', h1, h2, h3⟩
 | exit i => rfl
 | ret => rfl
end
section
variable {P : Program} {σ : Sto} {ev : O → AV} {T : Fg → AV → Sto → Prop}
end
attribute [go_sem] Option.map_none setE_nil setE_cons setC_zero setC_succ setS_nil setS_cons
end Go.Lift
