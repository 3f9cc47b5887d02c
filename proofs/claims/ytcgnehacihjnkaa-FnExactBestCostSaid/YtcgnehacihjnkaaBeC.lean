/-
  Contracts: the best cost over sets of tensors. No condition.
-/
import Derived.Test.YtcgnehacihjnkaaMgBestCostA
import Derived.Test.YtcgnehacihjnkaaPlV
import Derived.Test.YtcgnehacihjnkaaBeW
import Derived.Test.YtcgnehacihjnkaaSetA
import Derived.Test.YtcgnehacihjnkaaOrdT
import Derived.Test.YtcgnehacihjnkaaPlD
import Derived.Test.YtcgnehacihjnkaaEliC
namespace Go.Proofs.Ytcgnehacihjnkaa
open Go.RowKit Go.Lift Plain
set_option linter.unusedSimpArgs false
set_option linter.unusedVariables false
set_option maxRecDepth 100000

/-! ### Words -/
theorem and_eq {a b : Nat} (ha : a < 128) (hb : b < 18446744073709551616) : IntKind.i64.wrap (((BitVec.ofInt 64 (a : Int) &&& BitVec.ofInt 64 (b : Int)).toNat : Nat) : Int) = ((a &&& b : Nat) : Int) := by
  have := Nat.and_le_left (n := a) (m := b)
  rw [BitVec.ofInt_natCast, BitVec.ofInt_natCast, BitVec.toNat_and, BitVec.toNat_ofNat, BitVec.toNat_ofNat, Nat.mod_eq_of_lt (by omega), Nat.mod_eq_of_lt (by omega)]
  exact wrapN (by omega)
theorem low_le (s : Nat) : lowW s ≤ s := Nat.and_le_left
theorem low_eq {s : Nat} (hs : s < 128) : IntKind.i64.wrap (((BitVec.ofInt 64 (s : Int) &&& BitVec.ofInt 64 (0 - (s : Int))).toNat : Nat) : Int) = ((lowW s : Nat) : Int) := by
  have hl := low_le s
  have e : (BitVec.ofInt 64 (0 - (s : Int))).toNat = (18446744073709551616 - s) % 18446744073709551616 := by
    rw [BitVec.toNat_ofInt]
    have : (2 : Nat) ^ 64 = 18446744073709551616 := by decide
    rw [this]
    omega
  rw [BitVec.toNat_and, e, BitVec.ofInt_natCast, BitVec.toNat_ofNat, Nat.mod_eq_of_lt (by omega)]
  exact wrapN (by show lowW s < _; omega)
theorem sub_eq {s a : Nat} (hs : s < 128) (ha : a < s) (h : divW s a = true) : IntKind.i64.wrap (((BitVec.ofInt 64 (s : Int) &&& ~~~ BitVec.ofInt 64 (a : Int)).toNat : Nat) : Int) = ((s - a : Nat) : Int) := by
  have e : (~~~ BitVec.ofInt 64 (a : Int)).toNat = 18446744073709551615 - a := by
    rw [BitVec.toNat_not, BitVec.ofInt_natCast, BitVec.toNat_ofNat, Nat.mod_eq_of_lt (by omega)]
  rw [BitVec.toNat_and, e, BitVec.ofInt_natCast, BitVec.toNat_ofNat, Nat.mod_eq_of_lt (by omega), sub_bits hs ha h]
  exact wrapN (by omega)
theorem divW_is {s a : Nat} : divW s a = true ↔ (((a &&& s : Nat) : Int) != (a : Int)) = false ∧ (((a &&& lowW s : Nat) : Int) == 0) = false := by
  simp only [divW, Bool.and_eq_true, Bool.not_eq_true', Nat.beq_eq, bne_eq_false_iff_eq, beq_eq_false_iff_ne, ne_eq]
  constructor
  · rintro ⟨h1, h2⟩
    refine ⟨by omega, fun h => ?_⟩
    have : Nat.beq (a &&& lowW s) 0 = true := by rw [Nat.beq_eq]; omega
    rw [this] at h2; cases h2
  · rintro ⟨h1, h2⟩
    refine ⟨by omega, ?_⟩
    cases hb : Nat.beq (a &&& lowW s) 0
    · rfl
    · exact absurd (by rw [Nat.beq_eq] at hb; omega) h2
/-! ### The labels of a set -/
def ovr (f : Nat → List Int) (ts : List Ten) : Nat → Nat → List Int
  | 0, s => f s
  | k + 1, s => if s = 2 ^ k then (ts.getD k ⟨[], [], []⟩).labels else ovr f ts k s
noncomputable def setC (N : Net) (s : Nat) : List Int := pickTo (setP N (s : Int)) 100
noncomputable def lblN (N : Net) (s : Nat) : List Int := ovr (setC N) N.ts N.ts.length s
section
variable {f : Nat → List Int} {ts : List Ten} {k s n : Nat}
theorem ovr_none : ∀ k, (∀ i, i < k → s ≠ 2 ^ i) → ovr f ts k s = f s
  | 0, _ => rfl
  | k + 1, h => by rw [ovr, if_neg (h k (by omega))]; exact ovr_none k fun i hi => h i (by omega)
theorem ovr_hit (hk : k < ts.length) : ∀ n, k < n → ovr f ts n (2 ^ k) = ts[k].labels
  | 0, h => absurd h (Nat.not_lt_zero k)
  | n + 1, h => by
    by_cases e : k = n
    · subst e
      rw [ovr, if_pos rfl]
      exact congrArg Ten.labels (tget_at hk)
    · have : 2 ^ k < 2 ^ n := Nat.pow_lt_pow_right (by omega) (by omega)
      rw [ovr, if_neg (by omega)]
      exact ovr_hit hk n (by omega)
theorem ovr_or : ∀ k, k ≤ ts.length → (∃ i, ∃ hi : i < ts.length, ovr f ts k s = ts[i].labels) ∨ ovr f ts k s = f s
  | 0, _ => .inr rfl
  | k + 1, h => by
    by_cases e : s = 2 ^ k
    · exact .inl ⟨k, by omega, by rw [ovr, if_pos e]; exact congrArg Ten.labels (tget_at (by omega))⟩
    · rw [ovr, if_neg e]; exact ovr_or k (by omega)
end
section
variable {N : Net} {s : Nat}
theorem setP_lab {i : Int} (hok : netOk N = true) {x : Int} (h : x ∈ pickTo (setP N i) 100) : dimN N.ts x ≠ 0 ∧ 0 ≤ x ∧ x ≤ 99 := by
  obtain ⟨j, hj, hp, rfl⟩ := pickTo_mem h
  refine ⟨?_, by omega, by omega⟩
  simp only [setP, Bool.and_eq_true] at hp
  have ha := hp.1
  simp only [anyL, List.any_eq_true] at ha
  obtain ⟨t, ht, hx⟩ := ha
  have hts := pickT_sub (Nat.le_refl _) ht
  have hal : anyL N.ts j = true := by simp only [anyL, List.any_eq_true]; exact ⟨t, hts, hx⟩
  rw [anyL_dim (netOk_ax hok)] at hal
  simpa using hal
structure LbOk (T : List Int) (l : List Int) : Prop where
  nd : l.Nodup
  bd : ∀ x ∈ l, 0 ≤ x ∧ x ≤ 99
  dm : ∀ x ∈ l, 1 ≤ atT T x ∧ atT T x ≤ 8
theorem LbOk.len {T l : List Int} (h : LbOk T l) : l.length ≤ 100 := nodup_len h.nd h.bd
theorem LbOk.join {T a b : List Int} (ha : LbOk T a) (hb : LbOk T b) : LbOk T (joinL a b) :=
  ⟨joinL_nodup ha.nd hb.nd, fun x hx => (mem_joinL.1 hx).elim (ha.bd x) (hb.bd x), fun x hx => (mem_joinL.1 hx).elim (ha.dm x) (hb.dm x)⟩
theorem atT_net (hok : netOk N = true) {x : Int} (hx : 0 ≤ x ∧ x ≤ 99) : atT (dimsR N.ts).1 x = dimN N.ts x :=
  (dimsR_ok (netOk_ax hok)).2 ((dimsR_ok (netOk_ax hok)).1.2 (netOk_iff.1 hok).2.2.2.1) x hx
theorem setC_ok (hok : netOk N = true) : LbOk (dimsR N.ts).1 (setC N s) := by
  refine ⟨pickTo_nodup _ _, fun x hx => (setP_lab hok hx).2, fun x hx => ?_⟩
  have h := setP_lab hok hx
  rw [atT_net hok h.2]
  have := dimN_bd (netOk_ax hok) x
  omega
theorem ten_ok (hok : netOk N = true) {i : Nat} (hi : i < N.ts.length) : LbOk (dimsR N.ts).1 N.ts[i].labels := by
  have hax := netOk_ax hok _ (List.getElem_mem hi)
  have hd := dims_net hok (List.getElem_mem hi)
  refine ⟨axOk_nodup hax, ax_labels hax, fun x hx => ?_⟩
  have : atT (dimsR N.ts).1 x ∈ N.ts[i].dims := by rw [← hd]; exact List.mem_map_of_mem hx
  have := hax.dim _ this
  omega
theorem ovr_ok (hok : netOk N = true) {k : Nat} (hk : k ≤ N.ts.length) : LbOk (dimsR N.ts).1 (ovr (setC N) N.ts k s) := by
  rcases ovr_or (f := setC N) (s := s) k hk with ⟨i, hi, e⟩ | e
  · rw [e]; exact ten_ok hok hi
  · rw [e]; exact setC_ok hok
theorem lbl_ok (hok : netOk N = true) : LbOk (dimsR N.ts).1 (lblN N s) := ovr_ok hok (Nat.le_refl _)
end
noncomputable def wrkN (N : Net) (a b : Nat) : Int := capP (dimsR N.ts).1 (joinL (lblN N a) (lblN N b))
theorem wrk_bd {N : Net} (hok : netOk N = true) (a b : Nat) : 1 ≤ wrkN N a b ∧ wrkN N a b ≤ 1000000000 := capP_bd _ ((lbl_ok hok).join (lbl_ok hok)).dm
noncomputable def bestC (N : Net) : Int := if netOk N = true ∧ N.ts.length ≤ 7 then (bcT (wrkN N) (2 ^ N.ts.length) (2 ^ N.ts.length - 1)).1 else -1
/-! ### Tables of lists -/
def tabS (n : Nat) (f : Nat → List Int) : List (List Int) := (List.range n).map f
section
variable {n j : Nat} {f g : Nat → List Int}
theorem tabS_len : (tabS n f).length = n := by simp [tabS]
theorem tabS_get (h : j < n) : (tabS n f)[j]? = some (f j) := by simp [tabS, h]
theorem tabS_at (h : j < (tabS n f).length) : (tabS n f)[j] = f j := by simp [tabS]
theorem lsA_get {L : List (List Int)} : (lsA L)[j]? = L[j]?.map fun l => .d (ints l) := by simp [lsA]
theorem tabS_put (hj : j < n) (h : ∀ i, i < n → g i = if i = j then g j else f i) : (lsA (tabS n f)).take j ++ [.d (.sl (g j).length (dv (g j)))] ++ (lsA (tabS n f)).drop (j + 1) = lsA (tabS n g) := by
  refine List.ext_getElem? fun i => ?_
  have hl : (lsA (tabS n f)).length = n := by rw [lsA_len, tabS_len]
  have htl : ((lsA (tabS n f)).take j).length = j := by rw [List.length_take]; omega
  rw [List.append_assoc, List.getElem?_append, htl]
  by_cases h1 : i < j
  · rw [if_pos h1, List.getElem?_take, if_pos h1, lsA_get, lsA_get, tabS_get (by omega), tabS_get (by omega), h i (by omega), if_neg (by omega)]
  · rw [if_neg h1]
    by_cases h2 : i = j
    · subst h2
      rw [Nat.sub_self, lsA_get, tabS_get hj]
      rfl
    · obtain ⟨q, rfl⟩ : ∃ q, i = j + 1 + q := ⟨i - (j + 1), by omega⟩
      rw [show j + 1 + q - j = q + 1 by omega, List.singleton_append, List.getElem?_cons_succ, List.getElem?_drop, lsA_get, lsA_get]
      by_cases h3 : j + 1 + q < n
      · rw [tabS_get h3, tabS_get h3, h _ h3, if_neg (by omega)]
      · rw [List.getElem?_eq_none (by rw [tabS_len]; omega), List.getElem?_eq_none (by rw [tabS_len]; omega)]
end
attribute [go_sem] lsA_get
theorem rawSetLabels_f {N : Net} {s : Int} (h : NSz 1048576 N) (hok : netOk N = true) (hs : I64 s) : Does Try.prog 147 [netA N, .d (.int s)] [] (.d (ints (pickTo (setP N s) 100))) [] := (rawSetLabels_d h hok hs).fzI
theorem l20Labels_f {N : Net} {s : Int} (h : NSz 1048576 N) (hok : netOk N = true) (hs : I64 s) : Does Try.prog 177 [netA N, .d (.int s)] [] (.d (ints (pickTo (setP N s) 100))) [] := (l20Labels_d h hok hs).fzI
theorem l12Dims_f {ts : List Ten} {L : List Int} (h : ts.length ≤ 1048576) (ht : ∀ t ∈ ts, TSz 1048576 t) (hax : axOks ts) (hL : L.length ≤ 1048576) :
    Does Try.prog 138 [.d (tens ts), .d (ints L)] [] (.d (ints (L.map (dimN ts)))) [] := by
  have := l12Dims_d h ht hax hL
  have e : L.length = (L.map (dimN ts)).length := (List.length_map ..).symm
  rw [e] at this
  exact this.fzI
/-! ### By the program -/
noncomputable def tbI (N : Net) (S q j : Nat) : Int × Nat := if j = S then toI (runT (fun i => (bcT (wrkN N) S i).1) (wrkN N) S (q + 1)) else bcT (wrkN N) S j
noncomputable def tbS (N : Net) (S q j : Nat) : Int × Nat := if j = S then runT (fun i => (bcT (wrkN N) S i).1) (wrkN N) S (q + 1) else bcT (wrkN N) S j
section
variable {N : Net} {S q j : Nat}
theorem tbI_zero : tbI N S 0 j = bcT (wrkN N) S j := by
  unfold tbI
  split
  · rename_i e
    rw [runT_one, e, bcT_ge _ (Nat.le_refl _)]; rfl
  · rfl
theorem tbI_end (h : q + 1 = S) : tbI N S q j = bcT (wrkN N) (S + 1) j := by
  unfold tbI
  rw [bcT, h]
theorem tbI_other (h : j ≠ S) : tbI N S q j = bcT (wrkN N) S j := if_neg h
theorem tbI_same : tbI N S q S = toI (runT (fun i => (bcT (wrkN N) S i).1) (wrkN N) S (q + 1)) := if_pos rfl
theorem tbI_yes (hd : divW S (q + 1) = true) (hh : (tbI N S q S).2 = 0 ∨ min ((bcT (wrkN N) S (q + 1)).1 + (bcT (wrkN N) S (S - (q + 1))).1 + wrkN N (q + 1) (S - (q + 1))) 1000000000 < (tbI N S q S).1) :
    tbI N S (q + 1) S = (min ((bcT (wrkN N) S (q + 1)).1 + (bcT (wrkN N) S (S - (q + 1))).1 + wrkN N (q + 1) (S - (q + 1))) 1000000000, q + 1) := by
  rw [tbI_same] at *
  exact toI_yes hd hh
theorem tbI_ge (hd : divW S (q + 1) = true) (hh : ¬ ((tbI N S q S).2 = 0 ∨ min ((bcT (wrkN N) S (q + 1)).1 + (bcT (wrkN N) S (S - (q + 1))).1 + wrkN N (q + 1) (S - (q + 1))) 1000000000 < (tbI N S q S).1)) :
    tbI N S (q + 1) S = tbI N S q S := by
  rw [tbI_same] at *
  rw [tbI_same]
  exact toI_ge hd hh
theorem tbI_put1 {k A : Nat} {v : Int} (hS : S < k) (hy : tbI N S (q + 1) S = (v, A)) : (tab k fun j => (tbI N S q j).1).take S ++ [v] ++ (tab k fun j => (tbI N S q j).1).drop (S + 1) = tab k fun j => (tbI N S (q + 1) j).1 := tab_put hS fun i hi => by
  by_cases e : i = S
  · subst e; rw [if_pos rfl, hy]
  · rw [if_neg e, tbI_other e, tbI_other e]
theorem tbI_put2 {k A : Nat} {v : Int} (hS : S < k) (hy : tbI N S (q + 1) S = (v, A)) : (tab k fun j => ((tbI N S q j).2 : Int)).take S ++ [(A : Int)] ++ (tab k fun j => ((tbI N S q j).2 : Int)).drop (S + 1) = tab k fun j => ((tbI N S (q + 1) j).2 : Int) := tab_put hS fun i hi => by
  by_cases e : i = S
  · subst e; rw [if_pos rfl, hy]
  · rw [if_neg e, tbI_other e, tbI_other e]
theorem tbI_next (h : tbI N S (q + 1) S = tbI N S q S) : ∀ j, tbI N S (q + 1) j = tbI N S q j := fun j => by
  by_cases e : j = S
  · subst e; exact h
  · rw [tbI_other e, tbI_other e]
end
end Go.Proofs.Ytcgnehacihjnkaa
