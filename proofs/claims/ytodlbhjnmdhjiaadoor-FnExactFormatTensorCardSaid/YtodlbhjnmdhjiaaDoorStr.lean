/-
  Lists of texts as cells; texts of ints; texts joined. No condition.
-/
import Derived.Test.YtodlbhjnmdhjiaaDoorLift29
import Derived.Lib.ItoaNum
import Derived.Lib.Join
namespace Go.Proofs.YtodlbhjnmdhjiaaDoor
open Go.RowKit Go.Lift Plain
set_option linter.unusedSimpArgs false
def xv (xs : List ByteArray) : List AV := xs.map fun x => .d (.str x)
def dxv (xs : List ByteArray) : List D := xs.map .str
/-- A slice of texts. -/
def strs (xs : List ByteArray) : D := .sl xs.length (dxv xs)
section
variable {xs ys : List ByteArray}
theorem xv_len : (xv xs).length = xs.length := by simp [xv]
theorem dxv_len : (dxv xs).length = xs.length := by simp [dxv]
theorem xv_get (i : Nat) : (xv xs)[i]? = xs[i]?.map fun x => .d (.str x) := by simp [xv]
theorem dxv_get (i : Nat) : (dxv xs)[i]? = xs[i]?.map .str := by simp [dxv]
theorem xv_take (n : Nat) : (xv xs).take n = xv (xs.take n) := by simp [xv, List.map_take]
theorem xv_drop (n : Nat) : (xv xs).drop n = xv (xs.drop n) := by simp [xv, List.map_drop]
theorem xv_app : xv xs ++ xv ys = xv (xs ++ ys) := by simp [xv]
theorem xv_mid (x : ByteArray) : xv xs ++ [.d (.str x)] ++ xv ys = xv (xs ++ [x] ++ ys) := by simp [xv]
theorem xv_snoc (x : ByteArray) : xv xs ++ [.d (.str x)] = xv (xs ++ [x]) := by simp [xv]
theorem dxv_map : (dxv xs).map .d = xv xs := by simp [xv, dxv]
theorem rnL_xv (f : Nat → Option Nat) : rnL f (xv xs) = xv xs := by
  induction xs with
  | nil => rfl
  | cons x l ih => simp only [xv, List.map_cons, rnL, rn] at ih ⊢; rw [ih]
theorem cellsD_xv : cellsD (xv xs) = some (dxv xs) := by
  induction xs with
  | nil => rfl
  | cons x l ih => simp only [xv, dxv, List.map_cons, cellsD, cellD] at ih ⊢; rw [ih]
theorem trB_xv : (xv xs).all trB = true := by
  induction xs with
  | nil => rfl
  | cons x l ih => simp only [xv, List.map_cons, List.all_cons] at ih ⊢; rw [ih]; rfl
theorem okC_xv : (xv xs).all okC = true := by
  induction xs with
  | nil => rfl
  | cons x l ih => simp only [xv, List.map_cons, List.all_cons] at ih ⊢; rw [ih]; rfl
theorem flatB_xv : (xv xs).all flatB = true := by
  induction xs with
  | nil => rfl
  | cons x l ih => simp only [xv, List.map_cons, List.all_cons] at ih ⊢; rw [ih]; rfl
theorem flatS_xv : (xv xs).all flatS = true := by
  induction xs with
  | nil => rfl
  | cons x l ih => simp only [xv, List.map_cons, List.all_cons] at ih ⊢; rw [ih]; rfl
theorem scalL_xv : scalL (xv xs) = true := by
  induction xs with
  | nil => rfl
  | cons x l ih => simp only [xv, List.map_cons, scalL] at ih ⊢; rw [ih]; rfl
theorem zeros_xv (n : Nat) (x : ByteArray) : Go.Lift.zeros n [.d (.str x)] = xv (List.replicate n x) := by
  unfold Go.Lift.zeros xv
  induction n with
  | zero => rfl
  | succ n ih => rw [List.replicate_succ, List.flatten_cons, ih, List.replicate_succ]; rfl
theorem cvL_xv (k : Nat) : ∀ (xs : List ByteArray) (j : Nat), cvL k j (xv xs) = xv xs
  | [], _ => rfl
  | x :: l, j => by
    have := cvL_xv k l (j + 1)
    simp only [xv, List.map_cons, cvL, cv] at this ⊢
    rw [this]
theorem plainL_xv : ∀ (xs : List ByteArray), plainL (xv xs) = true
  | [] => rfl
  | x :: l => by
    have := plainL_xv l
    simp only [xv, List.map_cons, plainL, plain] at this ⊢
    rw [this]; rfl
theorem idsL_xv : ∀ (xs : List ByteArray), idsL (xv xs) = []
  | [] => rfl
  | x :: l => by
    have := idsL_xv l
    simp only [xv, List.map_cons, idsL, idsA] at this ⊢
    rw [this]; rfl
theorem xv_nil : xv [] = [] := nr rfl
end
attribute [go_sem] xv_len dxv_len xv_get dxv_get xv_take xv_drop xv_app xv_mid xv_snoc dxv_map rnL_xv cellsD_xv trB_xv okC_xv flatB_xv flatS_xv scalL_xv zeros_xv cvL_xv plainL_xv idsL_xv

/-! ### Contracts over what the tables hold -/
/-- A call that only reads, and returns a scalar: the tables are there. -/
theorem Does.of_callsA {P : Program} {f : FuncId} {args : List AV} {res : AV} {v : Value} (hv : ∀ w γ φ s, Rel w γ φ s res v)
    (h : ∀ w γ φ vals, Adm γ w → RelL w γ φ (at_ []) args vals → Calls P f vals.toArray w fun e w' => e = .returned v ∧ Below w.heap.size w w') : Does P f args [] res [] := by
  intro γ φ w vals hS hr
  refine (h w γ φ vals hS.adm hr).mono fun e w' hq => ?_
  obtain ⟨rfl, hb⟩ := hq
  refine ⟨v, γ, φ, rfl, ⟨hb.os, hb.tape, hb.output, hb.size, fun b hb' _ => ⟨hb.block b hb', rfl⟩, fun b cur T f e => ⟨cur, ?_, rfl⟩⟩, fun k R e => ?_, ⟨fun b k p e => Nat.lt_of_lt_of_le (hS.bound b k p e) hb.size, fun k R e => ?_, fun b l hl => by
    obtain ⟨h1, cur, T, f, h2, h3⟩ := hS.adm b l hl
    exact ⟨h1, cur, T, f, h2, (hb.block b (Array.getElem?_eq_some_iff.1 h3).1).trans h3⟩⟩, hv _ _ _ _⟩
  · exact (hb.block b (Array.getElem?_eq_some_iff.1 e).1).trans e
  · simp [at_] at e
  · simp [at_] at e
theorem rv_str (x : ByteArray) : ∀ w γ φ s, Rel w γ φ s (.d (.str x)) (.string x) := fun w γ φ s => by simp only [Rel, Rd]
theorem rdL_strs {w : World} {I : Nat → Prop} : ∀ {xs : List ByteArray} {b o : Nat}, RdL w I (dxv xs) b o → ∀ (j : Nat) x, xs[j]? = some x → w.cell? ⟨b, o + j, none⟩ = some (.string x)
  | [], _, _, _, j, x, h => by simp at h
  | y :: l, b, o, hr, j, x, h => by
    simp only [dxv, List.map_cons, RdL, Rd] at hr
    obtain ⟨⟨v, hc, rfl⟩, hl⟩ := hr
    cases j with
    | zero => simp only [List.getElem?_cons_zero, Option.some.injEq] at h; subst h; exact hc
    | succ j =>
      have := rdL_strs (xs := l) hl j x (by simpa using h)
      rwa [show o + 1 + j = o + (j + 1) by omega] at this

/-! ### Texts -/
/-- An int's text. -/
def itoaB (n : Int) : ByteArray := ⟨(Lib.itoa n).toArray⟩
/-- Texts joined. -/
def joinB (xs : List ByteArray) (sep : ByteArray) : ByteArray := ⟨(Lib.join (xs.map (·.data.toList)) sep.data.toList).toArray⟩
theorem ba_ext {a b : ByteArray} (h : a.data.toList = b.data.toList) : a = b := by
  cases a; cases b
  simp only [ByteArray.mk.injEq]
  exact Array.toList_inj.1 h
theorem ba_size (a : ByteArray) : a.size = a.data.toList.length := by rw [Array.length_toList]; rfl
theorem ba_app (a b : ByteArray) : (a ++ b).data.toList = a.data.toList ++ b.data.toList := by rw [ByteArray.data_append, Array.toList_append]
theorem joinB_nil (sep : ByteArray) : joinB [] sep = ⟨#[]⟩ := by
  unfold joinB
  rw [List.map_nil, Lib.join_nil]
theorem join_snoc (sep x : List UInt8) : ∀ (r : List (List UInt8)), Lib.join (r ++ [x]) sep = if r = [] then x else Lib.join r sep ++ sep ++ x
  | [] => by simp [Lib.join_one]
  | y :: r => by
    rw [if_neg (by simp), List.cons_append, Lib.join_cons, Lib.join_cons]
    simp [Lib.joinTail]
theorem joinB_snoc (xs : List ByteArray) (x sep : ByteArray) : joinB (xs ++ [x]) sep = if xs = [] then x else joinB xs sep ++ sep ++ x := by
  refine ba_ext ?_
  simp only [joinB, List.map_append, List.map_cons, List.map_nil, join_snoc]
  by_cases h : xs = []
  · subst h; simp
  · rw [if_neg (by simp [h]), if_neg h, ba_app, ba_app]
theorem joinB_size {sep : ByteArray} {c : Nat} (hs : sep.size ≤ 1) : ∀ (n : Nat) (xs : List ByteArray), xs.length = n → (∀ x ∈ xs, x.size ≤ c) → (joinB xs sep).size ≤ n * (c + 1)
  | 0, xs, hn, _ => by
    rw [List.eq_nil_of_length_eq_zero hn, joinB_nil]; simp [ByteArray.size]
  | n + 1, xs, hn, h => by
    have hne : xs ≠ [] := fun e => by rw [e] at hn; simp at hn
    have e := List.dropLast_concat_getLast hne
    have h1 := joinB_size hs n xs.dropLast (by simp [hn]) (fun x hx => h x ((List.dropLast_sublist xs).mem hx))
    have h2 := h _ (List.getLast_mem hne)
    rw [← e, joinB_snoc]
    split
    · rw [Nat.succ_mul]; omega
    · simp only [ByteArray.size_append]
      rw [Nat.succ_mul]; omega
theorem nDigits_le : ∀ (k u : Nat), u < 10 ^ (k + 1) → Lib.nDigits u ≤ k + 1
  | 0, u, h => by rw [Lib.nDigits_small (by simpa using h)]; omega
  | k + 1, u, h => by
    by_cases hu : u < 10
    · rw [Lib.nDigits_small hu]; omega
    · rw [Lib.nDigits_big hu]
      have := nDigits_le k (u / 10) (by rw [Nat.pow_succ] at h; omega)
      omega
theorem itoaB_size {n : Int} (h : 0 ≤ n ∧ n ≤ 9223372036854775807) : (itoaB n).size ≤ 20 := by
  have : (itoaB n).size = Lib.nDigits n.toNat := by
    rw [ba_size]
    simp only [itoaB, Lib.itoa]
    rw [if_neg (by omega), Lib.decDigits_length]
  rw [this]
  exact nDigits_le 19 _ (by omega)
end Go.Proofs.YtodlbhjnmdhjiaaDoor
