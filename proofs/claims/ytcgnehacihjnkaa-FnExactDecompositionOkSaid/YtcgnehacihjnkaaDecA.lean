/-
  Contracts: lists of lists of ints and decompositions in a law: sizes, copies, comparisons. No condition.
-/
import Derived.Test.YtcgnehacihjnkaaMgDecompositionOkA
import Derived.Test.YtcgnehacihjnkaaPlD
namespace Go.Proofs.Ytcgnehacihjnkaa
open Go.RowKit Go.Lift Plain
set_option linter.unusedSimpArgs false
set_option linter.unusedVariables false
set_option maxRecDepth 100000

def totL : List (List Int) → Nat
  | [] => 0
  | b :: l => b.length + totL l
theorem totL_app : ∀ (a b : List (List Int)), totL (a ++ b) = totL a + totL b
  | [], b => by simp [totL]
  | t :: l, b => by simp [totL, totL_app l b, Nat.add_assoc]
theorem totL_next {L : List (List Int)} {k : Nat} (hk : k < L.length) : totL (L.take (k + 1)) = totL (L.take k) + L[k].length := by
  rw [take_ss hk, totL_app]; simp [totL]
theorem totL_take (L : List (List Int)) (k : Nat) : totL (L.take k) ≤ totL L := by
  have := congrArg totL (List.take_append_drop k L)
  rw [totL_app] at this
  omega
theorem totL_mem {L : List (List Int)} {b : List Int} (h : b ∈ L) : b.length ≤ totL L := by
  induction L with
  | nil => cases h
  | cons x l ih =>
    rcases List.mem_cons.1 h with rfl | h
    · simp [totL]
    · have := ih h; simp only [totL]; omega
def szLs (L : List (List Int)) (left : Int) : Int := if left < L.length + totL L then -1 else left - (L.length + totL L)
theorem szIntSS_d {L : List (List Int)} {left : Int} (h : L.length ≤ 9223372036854775807) (hb : ∀ b ∈ L, Sz 9223372036854775807 b) (h0 : 0 ≤ left ∧ left ≤ 1099511627776) :
    Does Try.prog 94 [.d (lists L), .d (.int left)] [] (.d (.int (szLs L left))) [] := by
  (refine spec_of (by kernel_rfl) Try.func94 k_laws_szIntSS (fnOk (Nat.le_of_ble_eq_true rfl) ?_); unfold C_laws_szIntSS)
  (simp only [Nat.reduceSub, List.length_cons, List.length_nil, Nat.reduceAdd, ch_init1, ch_init2, ch_init3, ch_init4, ch_init5, ch_init6, ch_init7, ch_init8]; try simp only [ch_rep]); (simp only [go_sem, seval, reduceCtorEq, List.replicate])
  by_cases h1 : left - L.length < 0
  · have e : szLs L left = -1 := by unfold szLs; rw [if_pos (by omega)]
    simp (disch := omega) only [go_sem, seval, reduceCtorEq, h1, e]
    (refine FnEnd.mk (Nat.le_of_ble_eq_true rfl) rfl (of_decide_eq_true rfl) ?_ ?_ <;> try simp only [go_sem, seval, reduceCtorEq])
  simp (disch := omega) only [go_sem, seval, reduceCtorEq, h1]
  have hI0 : (totL (L.take 0) : Int) + L.length ≤ left := by rw [List.take_zero]; show ((0 : Nat) : Int) + _ ≤ _; omega
  refine wpN_lpI (L.length) [false, false, false, false, true, false, false, false, false, false, false, false, true, true, true, true, true, true, true, true, true, true, true, true, true, true, false] (fun k => (totL (L.take k) : Int) + L.length ≤ left) (fun k => [(1, .d (.int (left - L.length - totL (L.take k)))), (5, .d (.int k))]) (fun k => []) (fun _ => by (simp only [go_sem, seval, reduceCtorEq, dropF_ch, dropF_cons, dropF_nil, cut, cond_true, cond_false]); first | done | rfl) (fun _ => by (simp only [go_sem, seval, reduceCtorEq, cut]); first | done | rfl) (hI0) (Nat.le_of_ble_eq_true rfl) (by first | (simp only [go_sem, seval, reduceCtorEq, dropF_ch, dropF_cons, dropF_nil, cut, cond_true, cond_false, Int.natCast_zero, Int.natCast_add, Int.natCast_one, List.take_zero, totL, Int.sub_zero]; done) | rfl | (simp only [go_sem, seval, reduceCtorEq, dropF_ch, dropF_cons, dropF_nil, cut, cond_true, cond_false, Int.natCast_zero, Int.natCast_add, Int.natCast_one, List.take_zero, totL, Int.sub_zero]; rfl)) (by first | (simp only [go_sem, seval, reduceCtorEq, dropF_ch, dropF_cons, dropF_nil, cut, cond_true, cond_false, Int.natCast_zero, Int.natCast_add, Int.natCast_one, List.take_zero, totL, Int.sub_zero]; done) | rfl | (simp only [go_sem, seval, reduceCtorEq, dropF_ch, dropF_cons, dropF_nil, cut, cond_true, cond_false, Int.natCast_zero, Int.natCast_add, Int.natCast_one, List.take_zero, totL, Int.sub_zero]; rfl)) fun k hk hi => ?_
  unfold L0_laws_szIntSS
  by_cases hlt : k < L.length
  · have d1 : (k : Int) < L.length := by omega
    have g : L[k]? = some L[k] := List.getElem?_eq_getElem hlt
    have hst := hb L[k] (List.getElem_mem hlt)
    have hn := totL_next hlt
    have hle := totL_take L (k + 1)
    simp (disch := omega) only [go_sem, seval, reduceCtorEq, d1, g]
    (refine ti_call (szIntS_d (xs := L[k]) (left := left - L.length - totL (L.take k)) hst.len (by omega)) ?_ ?_ ?_; (focus (simp only [go_sem, seval, reduceCtorEq]; done)); (first | rfl | (focus (simp only [go_sem]; done))))
    by_cases hb : (left - L.length - totL (L.take k) : Int) < L[k].length
    · have e : szLs L left = -1 := by unfold szLs; rw [if_pos (by omega)]
      simp (disch := omega) only [go_sem, seval, reduceCtorEq, hb, e]
      (refine FnEnd.mk (Nat.le_of_ble_eq_true rfl) rfl (of_decide_eq_true rfl) ?_ ?_ <;> try simp only [go_sem, seval, reduceCtorEq])
    · have c2 : ¬ (left - L.length - totL (L.take k) - L[k].length : Int) < 0 := by omega
      have e : (left - L.length - totL (L.take k) - L[k].length : Int) = left - L.length - totL (L.take (k + 1)) := by omega
      have hI : (totL (L.take (k + 1)) : Int) + L.length ≤ left := by omega
      simp (disch := omega) only [go_sem, seval, reduceCtorEq, hb, c2]
      (refine NextI.drop [false, false, false, false, true, false, false, false, false, false, false, false, true, true, true, true, true, true, true, true, true, true, true, true, true, true, false] (by omega) (hI) (Nat.le_of_ble_eq_true rfl) ?_ ?_ <;> first | (simp only [go_sem, seval, reduceCtorEq, dropF_ch, dropF_cons, dropF_nil, cut, cond_true, cond_false, Int.natCast_zero, Int.natCast_add, Int.natCast_one, e]; done) | rfl | (simp only [go_sem, seval, reduceCtorEq, dropF_ch, dropF_cons, dropF_nil, cut, cond_true, cond_false, Int.natCast_zero, Int.natCast_add, Int.natCast_one, e]; rfl) | skip)
  · have d1 : ¬ (k : Int) < L.length := by omega
    have e : szLs L left = left - L.length - totL (L.take k) := by
      rw [List.take_of_length_le (by omega)] at hi ⊢
      unfold szLs
      rw [if_neg (by omega)]
      omega
    simp (disch := omega) only [go_sem, seval, reduceCtorEq, d1, e]
    (refine FnEnd.mk (Nat.le_of_ble_eq_true rfl) rfl (of_decide_eq_true rfl) ?_ ?_ <;> try simp only [go_sem, seval, reduceCtorEq])
def szDec (L : List (List Int)) (P : List Int) (left : Int) : Int := if left < L.length + totL L + P.length then -1 else left - (L.length + totL L + P.length)
theorem szDecomposition_d {L : List (List Int)} {P : List Int} {left : Int} (h : DSz 9223372036854775807 L P) (h0 : 0 ≤ left ∧ left ≤ 1099511627776) :
    Does Try.prog 38 [decA L P, .d (.int left)] [] (.d (.int (szDec L P left))) [] := by
  (refine spec_of (by kernel_rfl) Try.func38 k_laws_szDecomposition (fnOk (Nat.le_of_ble_eq_true rfl) ?_); unfold C_laws_szDecomposition)
  (simp only [Nat.reduceSub, List.length_cons, List.length_nil, Nat.reduceAdd, ch_init1, ch_init2, ch_init3, ch_init4, ch_init5, ch_init6, ch_init7, ch_init8]; try simp only [ch_rep]); (simp only [go_sem, seval, reduceCtorEq, List.replicate])
  (refine ti_call (szIntSS_d (L := L) (left := left) h.b h.e h0) ?_ ?_ ?_; (focus (simp only [go_sem, seval, reduceCtorEq]; done)); (first | rfl | (focus (simp only [go_sem]; done))))
  by_cases hb : szLs L left < 0
  · have e : szDec L P left = -1 := by
      have hb' := hb
      unfold szLs at hb'
      unfold szDec
      rw [if_pos]
      split at hb' <;> omega
    simp (disch := omega) only [go_sem, seval, reduceCtorEq, hb, e]
    (refine FnEnd.mk (Nat.le_of_ble_eq_true rfl) rfl (of_decide_eq_true rfl) ?_ ?_ <;> try simp only [go_sem, seval, reduceCtorEq])
  have e : szLs L left = left - (L.length + totL L) := by
    have hb' := hb
    unfold szLs at hb' ⊢
    split at hb'
    · omega
    · rename_i h'; rw [if_neg h']
  simp (disch := omega) only [go_sem, seval, reduceCtorEq, hb]
  rw [e] at hb ⊢
  (refine ti_call (szIntS_d (xs := P) (left := left - (L.length + totL L)) h.p.len (by omega)) ?_ ?_ ?_; (focus (simp only [go_sem, seval, reduceCtorEq]; done)); (first | rfl | (focus (simp only [go_sem]; done))))
  by_cases hc : left - (L.length + totL L : Int) < P.length
  · have e2 : szDec L P left = -1 := by unfold szDec; rw [if_pos (by omega)]
    simp (disch := omega) only [go_sem, seval, reduceCtorEq, hc, e2]
    (refine FnEnd.mk (Nat.le_of_ble_eq_true rfl) rfl (of_decide_eq_true rfl) ?_ ?_ <;> try simp only [go_sem, seval, reduceCtorEq])
  · have e2 : szDec L P left = left - (L.length + totL L) - P.length := by unfold szDec; rw [if_neg (by omega)]; omega
    have c2 : ¬ left - (L.length + totL L : Int) - P.length < 0 := by omega
    simp (disch := omega) only [go_sem, seval, reduceCtorEq, hc, c2, e2]
    (refine FnEnd.mk (Nat.le_of_ble_eq_true rfl) rfl (of_decide_eq_true rfl) ?_ ?_ <;> try simp only [go_sem, seval, reduceCtorEq])
theorem szDec_go {L : List (List Int)} {P : List Int} {left : Int} (h : DSz 9223372036854775807 L P) (hl : left ≤ 1048576) (hs : ¬ szDec L P left < 0) : DSz 1048576 L P ∧ szDec L P left = left - (L.length + totL L + P.length) := by
  have hs' := hs
  unfold szDec at hs'
  have hb : (L.length + totL L + P.length : Int) ≤ left := by split at hs' <;> omega
  refine ⟨⟨by omega, fun b hm => ?_, ⟨by omega, h.p.wf⟩⟩, by unfold szDec; rw [if_neg (by omega)]⟩
  have h1 := totL_mem hm
  exact ⟨by omega, (h.e b hm).wf⟩
/-- A row of n lists of which the first k are laid. -/
def mixS (L : List (List Int)) (k : Nat) : List AV := lsA (L.take k) ++ List.replicate (L.length - k) .nil
theorem zeros_nil (n : Nat) : Go.Lift.zeros n [.nil] = List.replicate n .nil := by
  induction n with
  | zero => rfl
  | succ n ih => rw [zeros_succ, ih, List.replicate_succ]; rfl
theorem rnL_nils (ρ : Nat → Option Nat) (n : Nat) : rnL ρ (List.replicate n .nil) = List.replicate n .nil := by
  induction n with
  | zero => rfl
  | succ n ih => simp only [List.replicate_succ, rnL, rn, ih]
theorem rnL_app (ρ : Nat → Option Nat) : ∀ a b : List AV, rnL ρ (a ++ b) = rnL ρ a ++ rnL ρ b
  | [], b => rfl
  | x :: a, b => by simp only [List.cons_append, rnL, rnL_app ρ a b]
section
variable {L : List (List Int)} {k : Nat}
theorem rnL_mixS (ρ : Nat → Option Nat) : rnL ρ (mixS L k) = mixS L k := by rw [mixS, rnL_app, rnL_lsA, rnL_nils]
theorem all_cut {l : List AV} {p : AV → Bool} {a b : Nat} (h : l.all p = true) : ((l.drop a).take b).all p = true := by
  rw [List.all_eq_true] at *
  exact fun x hx => h x (List.mem_of_mem_drop (List.mem_of_mem_take hx))
theorem lsA_tr (L : List (List Int)) : (lsA L).all trB = true := by
  rw [List.all_eq_true]
  intro x hx
  obtain ⟨l, _, rfl⟩ := List.mem_map.1 hx
  rfl
theorem nils_tr (n : Nat) : (List.replicate n AV.nil).all trB = true := by
  rw [List.all_eq_true]
  intro x hx
  rw [List.eq_of_mem_replicate hx]
  rfl
theorem mixS_tr {a b : Nat} : (((mixS L k).drop a).take b).all trB = true := all_cut (by rw [mixS, List.all_append, lsA_tr, nils_tr]; rfl)
theorem mixS_zero : mixS L 0 = List.replicate L.length .nil := by simp [mixS, lsA]
theorem mixS_all (h : L.length ≤ k) : mixS L k = lsA L := by
  rw [mixS, List.take_of_length_le h, show L.length - k = 0 by omega]
  simp
theorem mixS_len (h : k ≤ L.length) : (mixS L k).length = L.length := by
  rw [mixS, List.length_append, lsA_len, List.length_take, List.length_replicate]
  omega
theorem mixS_next (h : k < L.length) : (mixS L k).take k ++ [.d (.sl L[k].length (dv L[k]))] ++ (mixS L k).drop (k + 1) = mixS L (k + 1) := by
  have hl : (lsA (L.take k)).length = k := by rw [lsA_len, List.length_take]; omega
  have e1 : (mixS L k).take k = lsA (L.take k) := by rw [mixS, List.take_append_of_le_length (by omega), List.take_of_length_le (by omega)]
  have e2 : (mixS L k).drop (k + 1) = List.replicate (L.length - (k + 1)) .nil := by
    rw [mixS, List.drop_append, List.drop_of_length_le (by omega), List.nil_append, hl, List.drop_replicate]
    congr 1
    omega
  rw [e1, e2, lsA_snoc, ← take_ss h]
  rfl
end
attribute [go_sem] rnL_nils rnL_mixS mixS_len
theorem toIntS_f {xs : List Int} (h : xs.length ≤ 1099511627776) : Does Try.prog 17 [.d (ints xs)] [] (.d (ints xs)) [] := (toIntS_d h).fzI
theorem toIntSS_d {L : List (List Int)} (h : L.length ≤ 1048576) (hb : ∀ b ∈ L, Sz 1048576 b) : Does Try.prog 98 [.d (lists L)] [] (.d (lists L)) [] := by
  refine Does.fz (g := true) (c := lsA L) ?_ cellsD_lsA (by rw [ldv_len, Nat.mul_one])
  (refine spec_of (by kernel_rfl) Try.func98 k_laws_toIntSS (fnOk (Nat.le_of_ble_eq_true rfl) ?_); unfold C_laws_toIntSS)
  (simp only [Nat.reduceSub, List.length_cons, List.length_nil, Nat.reduceAdd, ch_init1, ch_init2, ch_init3, ch_init4, ch_init5, ch_init6, ch_init7, ch_init8]; try simp only [ch_rep]); (simp only [go_sem, seval, reduceCtorEq, List.replicate])
  simp (disch := omega) only [go_sem, seval, reduceCtorEq, zeros_nil]
  (repeat (refine And.intro (by omega) ?_))
  refine wpN_lp (L.length) [false, false, false, false, false, false, false, false, true, true, true, true, true, true, true, true, true, true, true, true, true, true, false] (fun k => [(4, .d (.int k))]) (fun k => [(0, mixS L k)]) (fun _ => by (simp only [go_sem, seval, reduceCtorEq, dropF_ch, dropF_cons, dropF_nil, cut, cond_true, cond_false]); first | done | rfl) (fun _ => by (simp only [go_sem, seval, reduceCtorEq, cut]); first | done | rfl) (Nat.le_of_ble_eq_true rfl) (by first | (simp only [go_sem, seval, reduceCtorEq, dropF_ch, dropF_cons, dropF_nil, cut, cond_true, cond_false, Int.natCast_zero, Int.natCast_add, Int.natCast_one, mixS_zero]; done) | rfl | (simp only [go_sem, seval, reduceCtorEq, dropF_ch, dropF_cons, dropF_nil, cut, cond_true, cond_false, Int.natCast_zero, Int.natCast_add, Int.natCast_one, mixS_zero]; rfl)) (by first | (simp only [go_sem, seval, reduceCtorEq, dropF_ch, dropF_cons, dropF_nil, cut, cond_true, cond_false, Int.natCast_zero, Int.natCast_add, Int.natCast_one, mixS_zero]; done) | rfl | (simp only [go_sem, seval, reduceCtorEq, dropF_ch, dropF_cons, dropF_nil, cut, cond_true, cond_false, Int.natCast_zero, Int.natCast_add, Int.natCast_one, mixS_zero]; rfl)) fun k hk => ?_
  unfold L0_laws_toIntSS
  have hml := mixS_len (L := L) hk
  by_cases hlt : k < L.length
  · have d1 : (k : Int) < L.length := by omega
    have g : L[k]? = some L[k] := List.getElem?_eq_getElem hlt
    have hst := hb L[k] (List.getElem_mem hlt)
    have hm := mixS_next hlt
    simp (disch := omega) only [go_sem, seval, reduceCtorEq, d1, g]
    (repeat (refine And.intro (by omega) ?_))
    (refine ti_call (toIntS_f (xs := L[k]) hst.up.len) ?_ ?_ ?_; (focus (simp only [go_sem, seval, reduceCtorEq]; done)); (first | rfl | (focus (simp only [go_sem]; done))))
    simp (disch := omega) only [go_sem, seval, reduceCtorEq]
    (repeat (refine And.intro (by omega) ?_))
    refine And.intro mixS_tr ?_
    (refine Next.drop [false, false, false, false, false, false, false, false, true, true, true, true, true, true, true, true, true, true, true, true, true, true, false] (by omega) (Nat.le_of_ble_eq_true rfl) ?_ ?_ <;> first | (simp only [go_sem, seval, reduceCtorEq, dropF_ch, dropF_cons, dropF_nil, cut, cond_true, cond_false, Int.natCast_zero, Int.natCast_add, Int.natCast_one, hm]; done) | rfl | (simp only [go_sem, seval, reduceCtorEq, dropF_ch, dropF_cons, dropF_nil, cut, cond_true, cond_false, Int.natCast_zero, Int.natCast_add, Int.natCast_one, hm]; rfl) | skip)
  · have d1 : ¬ (k : Int) < L.length := by omega
    obtain rfl : k = L.length := by omega
    have hm := mixS_all (L := L) (Nat.le_refl _)
    simp (disch := omega) only [go_sem, seval, reduceCtorEq, d1, hm]
    (refine FnEnd.mk (Nat.le_of_ble_eq_true rfl) rfl (of_decide_eq_true rfl) ?_ ?_ <;> try simp only [go_sem, seval, reduceCtorEq])
theorem toDecomposition_d {L : List (List Int)} {P : List Int} (h : DSz 1048576 L P) : Does Try.prog 40 [decA L P] [] (decA L P) [] := by
  (refine spec_of (by kernel_rfl) Try.func40 k_laws_toDecomposition (fnOk (Nat.le_of_ble_eq_true rfl) ?_); unfold C_laws_toDecomposition)
  (simp only [Nat.reduceSub, List.length_cons, List.length_nil, Nat.reduceAdd, ch_init1, ch_init2, ch_init3, ch_init4, ch_init5, ch_init6, ch_init7, ch_init8]; try simp only [ch_rep]); (simp only [go_sem, seval, reduceCtorEq, List.replicate])
  (refine ti_call (toIntSS_d (L := L) h.b h.e) ?_ ?_ ?_; (focus (simp only [go_sem, seval, reduceCtorEq]; done)); (first | rfl | (focus (simp only [go_sem]; done))))
  simp only [go_sem, seval, reduceCtorEq]
  (refine ti_call (toIntS_f (xs := P) h.p.up.len) ?_ ?_ ?_; (focus (simp only [go_sem, seval, reduceCtorEq]; done)); (first | rfl | (focus (simp only [go_sem]; done))))
  simp only [go_sem, seval, reduceCtorEq]
  (refine FnEnd.mk (Nat.le_of_ble_eq_true rfl) rfl (of_decide_eq_true rfl) ?_ ?_ <;> try simp only [go_sem, seval, reduceCtorEq])
theorem eqIntSS_d {L : List (List Int)} (h : L.length ≤ 1048576) (hb : ∀ b ∈ L, Sz 1048576 b) : Does Try.prog 102 [.d (lists L), .d (lists L)] [] (.d (.bool true)) [] := by
  (refine spec_of (by kernel_rfl) Try.func102 k_laws_eqIntSS (fnOk (Nat.le_of_ble_eq_true rfl) ?_); unfold C_laws_eqIntSS)
  (simp only [Nat.reduceSub, List.length_cons, List.length_nil, Nat.reduceAdd, ch_init1, ch_init2, ch_init3, ch_init4, ch_init5, ch_init6, ch_init7, ch_init8]; try simp only [ch_rep]); (simp only [go_sem, seval, reduceCtorEq, List.replicate])
  refine wpN_lp (L.length) [false, false, false, false, true, false, false, false, false, false, false, true, true, true, true, true, true, true, true, true, true, true, true, true, true, true, true] (fun k => [(5, .d (.int k))]) (fun k => []) (fun _ => by (simp only [go_sem, seval, reduceCtorEq, dropF_ch, dropF_cons, dropF_nil, cut, cond_true, cond_false]); first | done | rfl) (fun _ => by (simp only [go_sem, seval, reduceCtorEq, cut]); first | done | rfl) (Nat.le_of_ble_eq_true rfl) (by first | (simp only [go_sem, seval, reduceCtorEq, dropF_ch, dropF_cons, dropF_nil, cut, cond_true, cond_false, Int.natCast_zero, Int.natCast_add, Int.natCast_one]; done) | rfl | (simp only [go_sem, seval, reduceCtorEq, dropF_ch, dropF_cons, dropF_nil, cut, cond_true, cond_false, Int.natCast_zero, Int.natCast_add, Int.natCast_one]; rfl)) (by first | (simp only [go_sem, seval, reduceCtorEq, dropF_ch, dropF_cons, dropF_nil, cut, cond_true, cond_false, Int.natCast_zero, Int.natCast_add, Int.natCast_one]; done) | rfl | (simp only [go_sem, seval, reduceCtorEq, dropF_ch, dropF_cons, dropF_nil, cut, cond_true, cond_false, Int.natCast_zero, Int.natCast_add, Int.natCast_one]; rfl)) fun k hk => ?_
  unfold L0_laws_eqIntSS
  by_cases hlt : k < L.length
  · have d1 : (k : Int) < L.length := by omega
    have g : L[k]? = some L[k] := List.getElem?_eq_getElem hlt
    have hst := hb L[k] (List.getElem_mem hlt)
    simp (disch := omega) only [go_sem, seval, reduceCtorEq, d1, g]
    (refine ti_call (eqIntS_d (xs := L[k]) (ys := L[k]) hst.up.len) ?_ ?_ ?_; (focus (simp only [go_sem, seval, reduceCtorEq]; done)); (first | rfl | (focus (simp only [go_sem]; done))))
    simp (disch := omega) only [go_sem, seval, reduceCtorEq, decide_true]
    (refine Next.drop [false, false, false, false, true, false, false, false, false, false, false, true, true, true, true, true, true, true, true, true, true, true, true, true, true, true, true] (by omega) (Nat.le_of_ble_eq_true rfl) ?_ ?_ <;> first | (simp only [go_sem, seval, reduceCtorEq, dropF_ch, dropF_cons, dropF_nil, cut, cond_true, cond_false, Int.natCast_zero, Int.natCast_add, Int.natCast_one]; done) | rfl | (simp only [go_sem, seval, reduceCtorEq, dropF_ch, dropF_cons, dropF_nil, cut, cond_true, cond_false, Int.natCast_zero, Int.natCast_add, Int.natCast_one]; rfl) | skip)
  · have d1 : ¬ (k : Int) < L.length := by omega
    simp (disch := omega) only [go_sem, seval, reduceCtorEq, d1]
    (refine FnEnd.mk (Nat.le_of_ble_eq_true rfl) rfl (of_decide_eq_true rfl) ?_ ?_ <;> try simp only [go_sem, seval, reduceCtorEq])
theorem eqDecomposition_d {L : List (List Int)} {P : List Int} (h : DSz 1048576 L P) : Does Try.prog 42 [decA L P, decA L P] [] (.d (.bool true)) [] := by
  (refine spec_of (by kernel_rfl) Try.func42 k_laws_eqDecomposition (fnOk (Nat.le_of_ble_eq_true rfl) ?_); unfold C_laws_eqDecomposition)
  (simp only [Nat.reduceSub, List.length_cons, List.length_nil, Nat.reduceAdd, ch_init1, ch_init2, ch_init3, ch_init4, ch_init5, ch_init6, ch_init7, ch_init8]; try simp only [ch_rep]); (simp only [go_sem, seval, reduceCtorEq, List.replicate])
  (refine ti_call (eqIntSS_d (L := L) h.b h.e) ?_ ?_ ?_; (focus (simp only [go_sem, seval, reduceCtorEq]; done)); (first | rfl | (focus (simp only [go_sem]; done))))
  simp only [go_sem, seval, reduceCtorEq]
  (refine ti_call (eqIntS_d (xs := P) (ys := P) h.p.up.len) ?_ ?_ ?_; (focus (simp only [go_sem, seval, reduceCtorEq]; done)); (first | rfl | (focus (simp only [go_sem]; done))))
  simp only [go_sem, seval, reduceCtorEq, decide_true]
  (refine FnEnd.mk (Nat.le_of_ble_eq_true rfl) rfl (of_decide_eq_true rfl) ?_ ?_ <;> try simp only [go_sem, seval, reduceCtorEq])
end Go.Proofs.Ytcgnehacihjnkaa
