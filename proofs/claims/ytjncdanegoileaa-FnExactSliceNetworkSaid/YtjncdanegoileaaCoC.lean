/-
  Contracts: products of elements, scaled tensors. No condition.
-/
import Derived.Test.YtjncdanegoileaaCoB
import Derived.Test.YtjncdanegoileaaPlA
namespace Go.Proofs.Ytjncdanegoileaa
open Go.RowKit Go.Lift Plain
set_option linter.unusedSimpArgs false
set_option linter.unusedVariables false
set_option maxRecDepth 100000

theorem putE_at {xs ys : List Int} {off k : Nat} (h : off + ys.length ≤ xs.length) (hk : k < ys.length) : (putE xs off ys)[off + k]? = some (ys.getD k 0) := by
  rw [putE_get h, if_pos (by omega), show off + k - off = k by omega, List.getElem?_eq_getElem hk, getD_of hk]
theorem putE_put {xs ys : List Int} {off k : Nat} {v : Int} (h : off + ys.length ≤ xs.length) (hk : k < ys.length) :
    (putE xs off ys).take (off + k) ++ [v] ++ (putE xs off ys).drop (off + k + 1) = putE xs off (ys.set k v) := by
  rw [put_set (by rw [putE_len h]; omega)]
  refine List.ext_getElem? fun i => ?_
  rw [List.getElem?_set, putE_get h, putE_get (by simpa using h), putE_len h]
  by_cases h1 : off + k = i
  · subst h1
    rw [if_pos rfl, if_pos (by omega), if_pos (by simp; omega), show off + k - off = k by omega, List.getElem?_set, if_pos rfl, if_pos hk]
  · rw [if_neg h1]
    by_cases h2 : off ≤ i ∧ i < off + ys.length
    · rw [if_pos h2, if_pos (by simpa using h2), List.getElem?_set, if_neg (by omega)]
    · rw [if_neg h2, if_neg (by simpa using h2)]
theorem putE_rep {xs : List Int} {off n : Nat} (h : off + n ≤ xs.length) : xs.take off ++ List.replicate n 0 ++ xs.drop (off + n) = putE xs off (List.replicate n 0) := by
  simp [putE]

theorem set0 {v z : Int} : [z].take 0 ++ [v] ++ [z].drop (0 + 1) = [v] := rfl
end Go.Proofs.Ytjncdanegoileaa

/-
  Contracts: scaled tensors. No condition.
-/
namespace Go.Proofs.Ytjncdanegoileaa
open Go.RowKit Go.Lift Plain
set_option linter.unusedSimpArgs false
set_option linter.unusedVariables false
set_option maxRecDepth 100000

theorem rawElemV_d {x wd l d m : Nat} {ca cb cc : List Int} {kk pp nn : Int} (hw : width ⟨kk, pp, nn⟩ = (wd : Int)) (h1 : 1 ≤ wd ∧ wd ≤ 6) (hx : x * wd + wd ≤ m) (hx2 : x ≤ 1099511627776) (h : m ≤ 1099511627776) :
    Does Try.prog 113 [ringA kk pp nn, .agg [.own 0 0 l, .own 1 0 d, .own 2 0 m], .d (.int x)] [some ⟨1, false, iv ca⟩, some ⟨1, false, iv cb⟩, some ⟨1, false, iv cc⟩] (.own 2 (x * wd) wd) [some ⟨1, false, iv ca⟩, some ⟨1, false, iv cb⟩, some ⟨1, false, iv cc⟩] := by
  (refine spec_of (by kernel_rfl) Try.func113 k_impl_rawElem (fnOk (Nat.le_of_ble_eq_true rfl) ?_); unfold C_impl_rawElem)
  (simp only [Nat.reduceSub, List.length_cons, List.length_nil, Nat.reduceAdd, ch_init1, ch_init2, ch_init3, ch_init4, ch_init5, ch_init6, ch_init7, ch_init8]; try simp only [ch_rep]); (simp only [go_sem, seval, reduceCtorEq, List.replicate])
  (refine ti_call (rawWidth_d kk pp nn) ?_ ?_ ?_; (focus (simp only [go_sem, seval, reduceCtorEq]; done)); (first | rfl | (focus (simp only [go_sem]; done))))
  have e1 : (x : Int) * wd = (x * wd : Nat) := by push_cast; rfl
  have e2 : ((x : Int) + 1) * wd = (x * wd + wd : Nat) := by push_cast; rw [Int.add_mul, Int.one_mul]
  have e3 : (((x * wd + wd : Nat) : Int) - (x * wd : Nat)).toNat = wd := by omega
  have c1 : ((x * wd : Nat) : Int) < (x * wd + wd : Nat) := by omega
  simp (disch := omega) only [go_sem, seval, reduceCtorEq, hw, e1, e2, e3, c1, or_true]
  refine ⟨⟨by omega, by omega⟩, ?_⟩
  (refine FnEnd.mk (Nat.le_of_ble_eq_true rfl) rfl (of_decide_eq_true rfl) ?_ ?_ <;> try simp only [go_sem, seval, reduceCtorEq])
theorem l05PutV_d {x wd l d m : Nat} {kk pp nn : Int} {ca cb cc ys : List Int} (hl : l = ca.length) (hd : d = cb.length) (hm : m = cc.length) (hw : width ⟨kk, pp, nn⟩ = (wd : Int)) (hy : ys.length = wd) (h1 : 1 ≤ wd ∧ wd ≤ 6) (hx : x * wd + wd ≤ m) (hx2 : x ≤ 1099511627776) (h : m ≤ 1099511627776) :
    Does Try.prog 144 [ringA kk pp nn, .agg [.own 0 0 l, .own 1 0 d, .own 2 0 m], .d (.int x), .d (ints ys)] [some ⟨1, false, iv ca⟩, some ⟨1, false, iv cb⟩, some ⟨1, false, iv cc⟩] (.tup []) [some ⟨1, false, iv ca⟩, some ⟨1, false, iv cb⟩, some ⟨1, false, iv (putE cc (x * wd) ys)⟩] := by
  subst hl hd hm
  exact l05Put_d (t := ⟨ca, cb, cc⟩) hw hy h1 hx hx2 h
/-- The elements of a tensor, each multiplied, up to the k-th. -/
def scaleTo (r : Rg) (x src : List Int) (wd : Nat) : Nat → List Int
  | 0 => src
  | i + 1 => putE (scaleTo r x src wd i) (i * wd) (mulE r x ((src.drop (i * wd)).take wd))
theorem fits_cut {r : Rg} {xs : List Int} (h : fits r xs) (a b : Nat) : fits r ((xs.drop a).take b) := by
  intro k hk
  have hk' : k < b ∧ k < xs.length - a := by simpa [Nat.lt_min] using hk
  have := h (a + k) (by omega)
  rw [getD_of hk]
  simp only [List.getElem_take, List.getElem_drop]
  rwa [getD_of (by omega)] at this
theorem mul_step {i n wd : Nat} (h : i < n) : i * wd + wd ≤ n * wd := by
  have : (i + 1) * wd ≤ n * wd := Nat.mul_le_mul_right wd h
  rw [Nat.add_mul, Nat.one_mul] at this
  exact this
theorem scaleTo_facts {r : Rg} {x src : List Int} {wd n : Nat} (hr : ringOk r = true) (hw : width r = wd) (hx : fits r x) (hs : fits r src) (lx : x.length = wd) (ls : src.length = n * wd) (hi : ∀ z ∈ src, I64 z) :
    ∀ i, i ≤ n → (scaleTo r x src wd i).length = src.length ∧ ∀ z ∈ scaleTo r x src wd i, I64 z
  | 0, _ => ⟨rfl, hi⟩
  | i + 1, h => by
    obtain ⟨h1, h2⟩ := scaleTo_facts hr hw hx hs lx ls hi i (by omega)
    have hst := mul_step (wd := wd) (show i < n by omega)
    obtain ⟨h3, h4⟩ := mulE_facts hr hw hx (fits_cut hs (i * wd) wd) lx (cut_len (by omega))
    refine ⟨?_, ?_⟩
    · rw [scaleTo, putE_len (by rw [h3]; omega)]; exact h1
    · rw [scaleTo]; exact putE_wf h2 h4
/-- A scaled tensor; nothing, where it can't be. -/
def scaleOk (r : Rg) (t : Ten) (x : List Int) : Bool := tensorOk r t.labels t.dims t.data && elemOk r x
def scaleT (r : Rg) (t : Ten) (x : List Int) : Ten := if scaleOk r t x = true then ⟨t.labels, t.dims, scaleTo r x t.data (width r).toNat (prodI t.dims).toNat⟩ else ⟨[], [], []⟩
/-- What is known of a tensor that is right. -/
theorem ten_facts {r : Rg} {t : Ten} (h : tensorOk r t.labels t.dims t.data = true) : ∃ wd n : Nat, width r = wd ∧ prodI t.dims = n ∧ 1 ≤ wd ∧ wd ≤ 6 ∧ 1 ≤ n ∧ n ≤ 4096 ∧ t.data.length = n * wd ∧ fits r t.data ∧ ringOk r = true ∧ axOk t.labels t.dims := by
  obtain ⟨f1, f2, f3, f4, f5, f6⟩ := tensorOk_facts h
  have hw := width_bd f1
  refine ⟨(width r).toNat, (prodI t.dims).toNat, by omega, by omega, by omega, by omega, by omega, by omega, ?_, ?_, f1, f2⟩
  · have : (t.data.length : Int) = ((prodI t.dims).toNat * (width r).toNat : Nat) := by
      rw [f6]; push_cast; rw [Int.toNat_of_nonneg (by omega), Int.toNat_of_nonneg (by omega)]
    omega
  · simp only [tensorOk, Bool.and_eq_true, fitsB, decide_eq_true_eq] at h
    exact h.2
theorem elem_fits {r : Rg} {x : List Int} (h : elemOk r x = true) : fits r x := by
  simp only [elemOk, Bool.and_eq_true, fitsB, decide_eq_true_eq] at h
  exact h.2
theorem scaleT_yes {r : Rg} {t : Ten} {x : List Int} {wd n : Nat} (h : scaleOk r t x = true) (h1 : width r = wd) (h2 : prodI t.dims = n) : scaleT r t x = ⟨t.labels, t.dims, scaleTo r x t.data wd n⟩ := by
  rw [scaleT, if_pos h, h1, h2]; rfl
theorem scaleT_sz {r : Rg} {t : Ten} {x : List Int} (h : TSz 1048576 t) : TSz 1048576 (scaleT r t x) := by
  by_cases ho : scaleOk r t x = true
  · have ho' := ho
    simp only [scaleOk, Bool.and_eq_true] at ho'
    obtain ⟨wd, n, e1, e2, e3, e4, e5, e6, e7, e8, e9, _⟩ := ten_facts ho'.1
    have hl : x.length = wd := by have := elemOk_len ho'.2; omega
    obtain ⟨g1, g2⟩ := scaleTo_facts e9 e1 (elem_fits ho'.2) e8 hl e7 h.x.wf n (Nat.le_refl _)
    rw [scaleT_yes ho e1 e2]
    exact ⟨h.l, h.d, ⟨by rw [g1]; exact h.x.len, g2⟩⟩
  · rw [scaleT, if_neg ho]
    exact ⟨⟨by simp, by simp⟩, ⟨by simp, by simp⟩, ⟨by simp, by simp⟩⟩
end Go.Proofs.Ytjncdanegoileaa
