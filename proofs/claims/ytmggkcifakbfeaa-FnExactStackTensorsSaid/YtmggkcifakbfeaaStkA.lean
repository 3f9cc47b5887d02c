/-
  Contracts: tensors stacked. No condition.
-/
import Derived.Test.YtmggkcifakbfeaaMgStackTensorsA
import Derived.Test.YtmggkcifakbfeaaTenB
import Derived.Test.YtmggkcifakbfeaaNetB
import Derived.Test.YtmggkcifakbfeaaLiftJ
import Derived.Test.YtmggkcifakbfeaaLiftI
namespace Go.Proofs.Ytmggkcifakbfeaa
open Go.RowKit Go.Lift Plain
set_option linter.unusedSimpArgs false
set_option linter.unusedVariables false
set_option maxRecDepth 100000

theorem fz_iv (k e : Nat) (ls : List D) (xs : List Int) : mapL (fzG k e ls) (iv xs) = iv xs := by
  rw [mapL_eq, iv, List.map_map]
  rfl
theorem does_fzT {P : Program} {f : FuncId} {args : List AV} {t : Ten} {b : Bool} (h : Does P f args [] (.tup [ownT 0 t, .d (.bool b)]) (stoF t)) : Does P f args [] (.tup [tenA t, .d (.bool b)]) [] := by
  have tk : ∀ xs : List Int, List.take xs.length (dv xs) = dv xs := fun xs => List.take_of_length_le (by rw [dv_len]; exact Nat.le_refl _)
  have h1 : Wk 0 [.tup [ownT 0 t, .d (.bool b)]] (stoF t) [.tup [tenA t, .d (.bool b)]] [none, none, none] := by
    refine (Wk.freeze 0 (R := ⟨1, false, iv t.labels⟩) (ls := dv t.labels) (Nat.le_refl _) rfl cellsD_iv (e' := [.tup [.agg [.d (ints t.labels), .own 1 0 t.dims.length, .own 2 0 t.data.length], .d (.bool b)]]) (σ' := [none, some ⟨1, false, iv t.dims⟩, some ⟨1, false, iv t.data⟩]) ?_ ?_).trans ?_
    · simp [mapL, mapA, fzG, ownT, ints, tk]
    · simp [frz, stoF, fz_iv, fzG]
    refine (Wk.freeze 1 (R := ⟨1, false, iv t.dims⟩) (ls := dv t.dims) (Nat.zero_le _) rfl cellsD_iv (e' := [.tup [.agg [.d (ints t.labels), .d (ints t.dims), .own 2 0 t.data.length], .d (.bool b)]]) (σ' := [none, none, some ⟨1, false, iv t.data⟩]) ?_ ?_).trans ?_
    · simp [mapL, mapA, fzG, ints, tk]
    · simp [frz, fz_iv, fzG]
    refine Wk.freeze 2 (R := ⟨1, false, iv t.data⟩) (ls := dv t.data) (Nat.zero_le _) rfl cellsD_iv ?_ ?_
    · simp [mapL, mapA, fzG, ints, tk, tenA]
    · simp [frz, fz_iv, fzG]
  have h2 := h.wk0 h1
  have : at_ [none, none, none] = at_ [] := by
    funext k
    match k with
    | 0 => rfl
    | 1 => rfl
    | 2 => rfl
    | k + 3 => simp [at_]
  unfold Does at *
  rw [this] at h2
  exact h2

/-! ### Rows of tensors that are read alone -/
def rowD (ts : List Ten) : List AV := (tcs ts).map .d
def z3 : List AV := [.nil, .nil, .nil]
def rowI (ts : List Ten) (n i : Nat) : List AV := rowD (ts.take i) ++ Lift.zeros (n - i) z3
section
variable {ts : List Ten} {n i k : Nat} {t : Ten}
theorem zeros3_len (m : Nat) : (Lift.zeros m z3).length = m * 3 := by
  induction m with
  | zero => rfl
  | succ m ih => simp only [Lift.zeros, List.replicate_succ, List.flatten_cons, List.length_append] at ih ⊢; rw [ih]; simp [z3]; omega
theorem zeros3_succ (m : Nat) : Lift.zeros (m + 1) z3 = z3 ++ Lift.zeros m z3 := by simp [Lift.zeros, List.replicate_succ]
theorem rowD_len : (rowD ts).length = ts.length * 3 := by simp [rowD, tcs_len]
theorem rowD_app (a b : List Ten) : rowD (a ++ b) = rowD a ++ rowD b := by simp [rowD, tcs_app]
theorem rowD_one (t : Ten) : rowD [t] = [.d (ints t.labels), .d (ints t.dims), .d (ints t.data)] := rfl
theorem rowD_cut (h : ts[k]? = some t) : ((rowD ts).drop (k * 3)).take 3 = [.d (ints t.labels), .d (ints t.dims), .d (ints t.data)] := by
  rw [rowD, ← List.map_drop, ← List.map_take, tcs_cut h]
  rfl
theorem rowD_take_len (h : i ≤ ts.length) : (rowD (ts.take i)).length = i * 3 := by rw [rowD_len, List.length_take]; congr 1; omega
theorem rowI_zero : rowI ts n 0 = Lift.zeros n z3 := by simp [rowI, rowD, tcs]
theorem rowI_len (h : ts.length = n) (hi : i ≤ n) : (rowI ts n i).length = n * 3 := by
  rw [rowI, List.length_append, rowD_take_len (by omega), zeros3_len]
  omega
theorem rowI_all (h : ts.length = n) : rowI ts n n = rowD ts := by
  rw [rowI, List.take_of_length_le (by omega), Nat.sub_self]
  simp [Lift.zeros]
theorem rowI_split (h : ts.length = n) (hi : i < n) : rowI ts n i = rowD (ts.take i) ++ (z3 ++ Lift.zeros (n - (i + 1)) z3) := by
  rw [rowI, show n - i = n - (i + 1) + 1 by omega, zeros3_succ]
theorem rowI_mid (h : ts.length = n) (hi : i < n) : ((rowI ts n i).drop (i * 3)).take 3 = z3 := by
  rw [rowI_split h hi]
  have := rowD_take_len (ts := ts) (i := i) (by omega)
  rw [← this, List.drop_left]
  rfl
theorem rowI_put (h : ts.length = n) (hi : i < ts.length) : (rowI ts n i).take (i * 3) ++ [.d (ints ts[i].labels), .d (ints ts[i].dims), .d (ints ts[i].data)] ++ (rowI ts n i).drop (i * 3 + 3) = rowI ts n (i + 1) := by
  have h1 := rowD_take_len (ts := ts) (i := i) (by omega)
  have h2 : rowD (ts.take (i + 1)) = rowD (ts.take i) ++ [.d (ints ts[i].labels), .d (ints ts[i].dims), .d (ints ts[i].data)] := by rw [take_ss hi, rowD_app, rowD_one]
  have h0 : rowI ts n (i + 1) = rowD (ts.take (i + 1)) ++ Lift.zeros (n - (i + 1)) z3 := rfl
  rw [h0, h2, rowI_split h (by omega)]
  have h3 : (rowD (ts.take i) ++ (z3 ++ Lift.zeros (n - (i + 1)) z3)).take (i * 3) = rowD (ts.take i) := by rw [← h1]; exact List.take_left
  have h4 : (rowD (ts.take i) ++ (z3 ++ Lift.zeros (n - (i + 1)) z3)).drop (i * 3 + 3) = Lift.zeros (n - (i + 1)) z3 := by
    rw [← h1, List.drop_append]
    have : (rowD (ts.take i)).drop ((rowD (ts.take i)).length + 3) = [] := List.drop_of_length_le (by omega)
    rw [this, List.nil_append, show (rowD (ts.take i)).length + 3 - (rowD (ts.take i)).length = 3 by omega]
    rfl
  rw [h3, h4]
end
theorem rnL_rowD (ρ : Nat → Option Nat) (ts : List Ten) : rnL ρ (rowD ts) = rowD ts := by
  rw [rnL_eq, rowD, List.map_map]
  rfl
theorem rnL_z3 (ρ : Nat → Option Nat) (m : Nat) : rnL ρ (Lift.zeros m z3) = Lift.zeros m z3 := by
  induction m with
  | zero => rfl
  | succ m ih => rw [zeros3_succ, rnL_two, ih]; rfl
theorem rnL_rowI (ρ : Nat → Option Nat) (ts : List Ten) (n i : Nat) : rnL ρ (rowI ts n i) = rowI ts n i := by rw [rowI, rnL_two, rnL_rowD, rnL_z3]
theorem idsL_rowD (ts : List Ten) : idsL (rowD ts) = [] := by
  unfold rowD
  induction tcs ts with
  | nil => rfl
  | cons x l ih => simpa [idsL, idsA] using ih
attribute [go_sem] rnL_rowD rnL_rowI idsL_rowD rowD_len
/-! ### Stacked data -/
def stkR (wd q : Nat) : List Ten → List Int
  | [] => []
  | t :: l => cutE t.data wd q ++ stkR wd q l
def stkT (wd : Nat) (ts : List Ten) : Nat → List Int
  | 0 => []
  | q + 1 => stkT wd ts q ++ stkR wd q ts
section
variable {wd n q : Nat} {ts : List Ten}
theorem stkR_app (a b : List Ten) : stkR wd q (a ++ b) = stkR wd q a ++ stkR wd q b := by
  induction a with
  | nil => rfl
  | cons t l ih => simp only [List.cons_append, stkR, ih, List.append_assoc]
theorem stkR_next {i : Nat} (hi : i < ts.length) : stkR wd q (ts.take (i + 1)) = stkR wd q (ts.take i) ++ cutE ts[i].data wd q := by
  rw [take_ss hi, stkR_app]
  simp [stkR]
theorem stkR_len (h : ∀ t ∈ ts, t.data.length = n * wd) (hq : q < n) : (stkR wd q ts).length = ts.length * wd := by
  induction ts with
  | nil => simp [stkR]
  | cons t l ih =>
    rw [stkR, List.length_append, ih fun u hu => h u (by simp [hu]), cutE_len (h t (by simp)) hq, List.length_cons, Nat.add_mul]
    omega
theorem stkT_len (h : ∀ t ∈ ts, t.data.length = n * wd) : ∀ q, q ≤ n → (stkT wd ts q).length = q * (ts.length * wd)
  | 0, _ => by simp [stkT]
  | q + 1, hq => by
    rw [stkT, List.length_append, stkT_len h q (by omega), stkR_len h (by omega), Nat.add_mul]
    omega
theorem stkR_mem {x : Int} (h : x ∈ stkR wd q ts) : ∃ t ∈ ts, x ∈ t.data := by
  induction ts with
  | nil => cases h
  | cons t l ih =>
    rcases List.mem_append.1 h with h | h
    · exact ⟨t, by simp, List.mem_of_mem_drop (List.mem_of_mem_take h)⟩
    · obtain ⟨u, h1, h2⟩ := ih h
      exact ⟨u, by simp [h1], h2⟩
theorem stkT_mem {x : Int} : ∀ {q : Nat}, x ∈ stkT wd ts q → ∃ t ∈ ts, x ∈ t.data
  | 0, h => by cases h
  | q + 1, h => by
    rcases List.mem_append.1 h with h | h
    · exact stkT_mem h
    · exact stkR_mem h
end
def hd0 (ts : List Ten) : Ten := ts.getD 0 ⟨[], [], []⟩
def skA (r : Rg) (ts : List Ten) : List Ten := ts.map (alR r (hd0 ts))
def skB1 (r : Rg) (ts : List Ten) : Bool := ringOk r && decide (1 ≤ ts.length ∧ ts.length ≤ 8) && tensorOk r (hd0 ts).labels (hd0 ts).dims (hd0 ts).data && ts.all (alB r (hd0 ts))
def skL (ts : List Ten) (x : Int) : List Int := (hd0 ts).labels ++ [x]
def skD (ts : List Ten) : List Int := (hd0 ts).dims ++ [(ts.length : Int)]
def stackB (r : Rg) (ts : List Ten) (x : Int) : Bool := skB1 r ts && decide (tsize (skL ts x) (skD ts) ≠ -1)
def stackT (r : Rg) (ts : List Ten) (x : Int) : Ten := if stackB r ts x = true then ⟨skL ts x, skD ts, stkT (width r).toNat (skA r ts) (prodI (hd0 ts).dims).toNat⟩ else ⟨[], [], []⟩
structure SkOk (r : Rg) (ts : List Ten) (wd n : Nat) : Prop where
  w : width r = wd
  wb : 1 ≤ wd ∧ wd ≤ 6
  p : prodI (hd0 ts).dims = n
  nb : 1 ≤ n ∧ n ≤ 4096
  len : 1 ≤ ts.length ∧ ts.length ≤ 8
  ax : axOk (hd0 ts).labels (hd0 ts).dims
  dl : ∀ t ∈ skA r ts, t.data.length = n * wd
theorem alR_yes {r : Rg} {a b : Ten} (h : alB r a b = true) : alR r a b = ⟨a.labels, a.dims, (alT r a b).data⟩ := by rw [alR, h]; rfl
theorem alF_yes {r : Rg} {a b : Ten} (h : alB r a b = true) : alF r a b = alR r a b := by
  obtain ⟨wd, n, ho⟩ := alOk_of h
  have hS : alS r a b = true := by simp only [alB, Bool.and_eq_true] at h; exact h.1
  rw [alR_yes h, alF, hS, cond_true, ← alT_eq ho, alT, ho.w]
  rfl
theorem skOk {r : Rg} {ts : List Ten} (h : skB1 r ts = true) : ∃ wd n : Nat, SkOk r ts wd n := by
  simp only [skB1, Bool.and_eq_true, decide_eq_true_eq] at h
  obtain ⟨⟨⟨h1, h2⟩, h3⟩, h4⟩ := h
  obtain ⟨wd, n, e1, e2, e3, e4, e5, e6, e7, e8, e9, e10⟩ := ten_facts h3
  refine ⟨wd, n, e1, ⟨e3, e4⟩, e2, ⟨e5, e6⟩, h2, e10, fun t ht => ?_⟩
  obtain ⟨u, hu, rfl⟩ := List.mem_map.1 ht
  have hb := List.all_eq_true.1 h4 u hu
  obtain ⟨wd', n', ho⟩ := alOk_of hb
  rw [alR_yes hb]
  have a1 := ho.w
  have a2 := ho.pa
  obtain rfl : wd' = wd := by omega
  obtain rfl : n' = n := by omega
  exact ho.lb
theorem skA_len {r : Rg} {ts : List Ten} : (skA r ts).length = ts.length := by simp [skA]
theorem skA_at {r : Rg} {ts : List Ten} {i : Nat} (hi : i < ts.length) : (skA r ts)[i]'(by rw [skA_len]; exact hi) = alR r (hd0 ts) ts[i] := by simp [skA]
theorem hd0_mem {ts : List Ten} (h : 1 ≤ ts.length) : hd0 ts ∈ ts := by
  cases ts with
  | nil => simp at h
  | cons t l => simp [hd0]
theorem stackT_yes {r : Rg} {ts : List Ten} {x : Int} {wd n : Nat} (h : SkOk r ts wd n) (ho : stackB r ts x = true) : stackT r ts x = ⟨skL ts x, skD ts, stkT wd (skA r ts) n⟩ := by
  rw [stackT, if_pos ho, h.w, h.p]; rfl
theorem skF_sz {r : Rg} {ts : List Ten} {x : Int} {wd n : Nat} (ht : ∀ t ∈ ts, TSz 1048576 t) (hx : I64 x) (h : SkOk r ts wd n) (ys : List Int) (hy : Sz 1048576 ys) : TSz 1048576 ⟨skL ts x, skD ts, ys⟩ := by
  have h0 := ht _ (hd0_mem h.len.1)
  have hl := h.ax.1
  have hl2 := h.ax.2.1
  have h8 := h.len
  refine ⟨⟨?_, fun y hy => ?_⟩, ⟨?_, fun y hy => ?_⟩, hy⟩
  · simp [skL]; omega
  · simp only [skL, List.mem_append, List.mem_singleton] at hy
    rcases hy with hy | rfl
    · exact h0.l.wf y hy
    · exact hx
  · simp [skD]; omega
  · simp only [skD, List.mem_append, List.mem_singleton] at hy
    rcases hy with hy | rfl
    · exact h0.d.wf y hy
    · exact ⟨by omega, by omega⟩
end Go.Proofs.Ytmggkcifakbfeaa
