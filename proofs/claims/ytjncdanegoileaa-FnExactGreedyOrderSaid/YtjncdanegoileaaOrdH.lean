/-
  Contracts: greedy orders. No condition.
-/
import Derived.Test.YtjncdanegoileaaMgGreedyOrderA
import Derived.Test.YtjncdanegoileaaOrdF
import Derived.Test.YtjncdanegoileaaOrdT
import Derived.Test.YtjncdanegoileaaOrdS
namespace Go.Proofs.Ytjncdanegoileaa
open Go.RowKit Go.Lift Plain
set_option linter.unusedSimpArgs false
set_option linter.unusedVariables false
set_option maxRecDepth 100000

/-! ### The first of the least gains -/
def bestI (g : Nat × Nat → Int) (P : List (Nat × Nat)) : Nat → Nat × Nat
  | 0 => P.getD 0 (0, 0)
  | k + 1 => if g (P.getD k (0, 0)) < g (bestI g P k) then P.getD k (0, 0) else bestI g P k
theorem bestI_mem {g : Nat × Nat → Int} {P : List (Nat × Nat)} (h : 0 < P.length) : ∀ k, k ≤ P.length → bestI g P k ∈ P
  | 0, _ => by rw [bestI, List.getD_eq_getElem?_getD, List.getElem?_eq_getElem h]; exact List.getElem_mem h
  | k + 1, hk => by
    rw [bestI]
    split
    · rw [List.getD_eq_getElem?_getD, List.getElem?_eq_getElem (show k < P.length by omega)]; exact List.getElem_mem _
    · exact bestI_mem h k (by omega)
theorem bestI_map {g : Nat × Nat → Int} {P : List (Nat × Nat)} {f : Nat × Nat → Nat × Nat} (h : 0 < P.length) : ∀ k, k ≤ P.length → bestI g (P.map f) k = f (bestI (fun p => g (f p)) P k)
  | 0, _ => by simp [bestI, List.getD_eq_getElem?_getD, h]
  | k + 1, hk => by
    have e : (P.map f).getD k (0, 0) = f (P.getD k (0, 0)) := by simp [List.getD_eq_getElem?_getD, show k < P.length by omega]
    rw [bestI, bestI, bestI_map h k (by omega), e]
    split
    · rfl
    · rfl
theorem prs_map (f : Nat → Nat) : ∀ l : List Nat, prs (l.map f) = (prs l).map fun p => (f p.1, f p.2)
  | [] => rfl
  | x :: l => by simp [prs, prs_map f l]
theorem prs_nums (l : List Nat) : prs l = (prs (List.range l.length)).map fun p => (l.getD p.1 0, l.getD p.2 0) := by
  rw [← prs_map (fun i => l.getD i 0)]
  congr 1
  refine List.ext_getElem (by simp) fun i h1 h2 => ?_
  simp [List.getD_eq_getElem?_getD, h1]
def gain (T os : List Int) (s : Osd) (p : Nat × Nat) : Int := capP T (s.res os p.1 p.2) - capP T (s.lab p.1) - capP T (s.lab p.2)
def grdP (T os : List Int) (s : Osd) : Nat × Nat := bestI (gain T os s) (prs s.nums) (prs s.nums).length
structure Grd where
  s : Osd
  ps : List (Nat × Nat)
def grdTo (T os : List Int) (r : Grd) : Nat → Grd
  | 0 => r
  | k + 1 => ⟨(grdTo T os r k).s.step os (grdP T os (grdTo T os r k).s).1 (grdP T os (grdTo T os r k).s).2, (grdTo T os r k).ps ++ [grdP T os (grdTo T os r k).s]⟩
structure GrdOk (T : List Int) (s : Osd) (m q : Nat) : Prop where
  ok : OsOk s m
  n : s.nums.length = q
  t : OsT T s
theorem grdP_mem {T os : List Int} {s : Osd} {q : Nat} (h : s.nums.length = q + 2) : grdP T os s ∈ prs s.nums := bestI_mem (prs_pos h) _ (Nat.le_refl _)
theorem grdTo_ok {T os : List Int} {r : Grd} {m q : Nat} (h : GrdOk T r.s m (q + 1)) : ∀ k, k ≤ q → GrdOk T (grdTo T os r k).s (m + k) (q + 1 - k)
  | 0, _ => h
  | k + 1, hk => by
    have ih := grdTo_ok (os := os) h k (by omega)
    have hn := ih.n
    rw [show q + 1 - k = (q - (k + 1)) + 2 by omega] at hn
    refine ⟨ih.ok.step _ _ _, ?_, OsT.step ih.ok ih.t⟩
    have := step_nums (os := os) ih.ok hn (grdP_mem (T := T) (os := os) hn)
    rw [show q + 1 - (k + 1) = q - (k + 1) + 1 by omega]
    exact this
theorem grdTo_ps (T os : List Int) (r : Grd) : ∀ k, (grdTo T os r k).ps.length = r.ps.length + k
  | 0 => rfl
  | k + 1 => by rw [grdTo, List.length_append, grdTo_ps T os r k]; rfl
/-! ### By the reference -/
theorem l19Size_t {T L : List Int} (hl : L.length ≤ 1048576) (hT : ∀ x ∈ L, 1 ≤ atT T x ∧ atT T x ≤ 8) :
    Does Try.prog 124 [.agg [.d (ints L), .d (ints (L.map (atT T))), .d (.sl 0 [])]] [] (.d (.int (capP T L))) [] := by
  have hml : (L.map (atT T)).length = L.length := List.length_map ..
  have hmin : min 1000000000 (min (prodI (L.map (atT T))) 1000000001) = capP T L := by unfold capP; omega
  (refine spec_of (by kernel_rfl) Try.func124 k_spec_l19Size (fnOk (Nat.le_of_ble_eq_true rfl) ?_); unfold C_spec_l19Size)
  (simp only [Nat.reduceSub, List.length_cons, List.length_nil, Nat.reduceAdd, ch_init1, ch_init2, ch_init3, ch_init4, ch_init5, ch_init6, ch_init7, ch_init8]; try simp only [ch_rep]); (simp only [go_sem, seval, reduceCtorEq, List.replicate])
  (refine ti_call (l05Product_d (ds := L.map (atT T)) (lim := 1000000000) (by omega) (fun d hd' => by obtain ⟨x, hx, rfl⟩ := List.mem_map.1 hd'; have := hT x hx; omega) (by omega)) ?_ ?_ ?_; (focus (simp only [go_sem, seval, reduceCtorEq, hml]; done)); (first | rfl | (focus (simp only [go_sem]; done))))
  simp (disch := omega) only [go_sem, seval, reduceCtorEq, Int.reduceAdd, hmin]
  (refine FnEnd.mk (Nat.le_of_ble_eq_true rfl) rfl (of_decide_eq_true rfl) ?_ ?_ <;> try simp only [go_sem, seval, reduceCtorEq])
theorem l19Gain_d {T os : List Int} {s : Osd} {m a b : Nat} (h : OsOk s m) (hm : m ≤ 1000) (ho : os.length ≤ 1048576) (ha : a < m) (hb : b < m) (hT : OsT T s) :
    Does Try.prog 72 [osQ T s, .d (ints os), .agg [.d (.int a), .d (.int b)]] [] (.d (.int (gain T os s (a, b)))) [] := by
  have hn := h.n
  have hg := h.gl
  have la : s.lab a = s.all[a] := by simp [Osd.lab, show a < s.all.length by omega]
  have lb : s.lab b = s.all[b] := by simp [Osd.lab, show b < s.all.length by omega]
  have ga := shD_cut (T := T) (show a < s.all.length by omega)
  have gb := shD_cut (T := T) (show b < s.all.length by omega)
  rw [← la] at ga
  rw [← lb] at gb
  have ia : (a : Int) < s.all.length := by omega
  have ib : (b : Int) < s.all.length := by omega
  obtain ⟨hjn, hjb, hjl⟩ := h.join a b
  have hla := h.len a
  have hlb := h.len b
  have ca := capP_bd (s.lab a) (hT a)
  have cb := capP_bd (s.lab b) (hT b)
  have cr := capP_bd (s.res os a b) hT.res
  (refine spec_of (by kernel_rfl) Try.func72 k_spec_l19Gain (fnOk (Nat.le_of_ble_eq_true rfl) ?_); unfold C_spec_l19Gain)
  simp only [osQ]
  (simp only [Nat.reduceSub, List.length_cons, List.length_nil, Nat.reduceAdd, ch_init1, ch_init2, ch_init3, ch_init4, ch_init5, ch_init6, ch_init7, ch_init8]; try simp only [ch_rep]); (simp only [go_sem, seval, reduceCtorEq, List.replicate])
  simp (disch := omega) only [go_sem, seval, reduceCtorEq, ia, ib, ga, gb]
  (repeat (refine And.intro (by omega) ?_))
  (refine gi_call (l08Join_t (T := T) (h.at a).1 (h.len a) (h.at b).1 (h.len b)) ?_ ?_ ?_; (focus (simp only [go_sem, seval, reduceCtorEq]; done)); (first | rfl | (focus (simp only [go_sem]; done))))
  simp only [go_sem, seval, reduceCtorEq]
  (refine ti_call (l17Keep_d (T := T) (a := a) (b := b) h hm ho) ?_ ?_ ?_; (focus (simp only [go_sem, seval, reduceCtorEq, osQ]; done)); (first | rfl | (focus (simp only [go_sem]; done))))
  have hkl : (s.keep os a b).length ≤ 1048576 + 100000 := by
    rw [← keepR_all, List.length_append]
    have := keepR_len h (a := a) (b := b) s.all.length
    omega
  generalize hK : s.keep os a b = K at *
  simp only [go_sem, seval, reduceCtorEq]
  generalize hJ : joinL (s.lab a) (s.lab b) = J at *
  have hres : s.res os a b = J.filter (has K) := by rw [Osd.res, hJ, hK]
  have hml : (J.map (atT T)).length = J.length := List.length_map ..
  have htj : List.take J.length (J.map (atT T)) = J.map (atT T) := List.take_of_length_le (by omega)
  (refine ti_call (l08Keep_d (ls := J) (ds := J.map (atT T)) (keep := K) hjn (by omega) (by omega) (by omega)) ?_ ?_ ?_; (focus (simp only [go_sem, seval, reduceCtorEq, hml, htj, List.take_length]; done)); (first | rfl | (focus (simp only [go_sem]; done))))
  have hdm : (J.filter (has K)).map (dAt J (J.map (atT T))) = (J.filter (has K)).map (atT T) := atT_join hjn fun x hx => (List.mem_filter.1 hx).1
  simp (disch := omega) only [go_sem, seval, reduceCtorEq, hdm]
  rw [← hres]
  have hrl : (s.res os a b).length ≤ 100 := nodup_len (h.res os a b).1 (h.res os a b).2
  have hgn : gain T os s (a, b) = capP T (s.res os a b) - capP T (s.lab a) - capP T (s.lab b) := rfl
  have hrT : ∀ x ∈ s.res os a b, 1 ≤ atT T x ∧ atT T x ≤ 8 := hT.res
  generalize hX : s.res os a b = X at *
  have hmx : (X.map (atT T)).length = X.length := List.length_map ..
  have htx : List.take X.length (X.map (atT T)) = X.map (atT T) := List.take_of_length_le (by omega)
  (refine gi_call (l19Size_t (T := T) (L := X) (by omega) hrT) ?_ ?_ ?_; (focus (simp only [go_sem, seval, reduceCtorEq, hmx, htx, List.take_length]; done)); (first | rfl | (focus (simp only [go_sem]; done))))
  simp (disch := omega) only [go_sem, seval, reduceCtorEq, ia, ga]
  (repeat (refine And.intro (by omega) ?_))
  (refine gi_call (l19Size_t (T := T) (L := s.lab a) (by omega) (hT a)) ?_ ?_ ?_; (focus (simp only [go_sem, seval, reduceCtorEq]; done)); (first | rfl | (focus (simp only [go_sem]; done))))
  simp (disch := omega) only [go_sem, seval, reduceCtorEq, ib, gb]
  (repeat (refine And.intro (by omega) ?_))
  (refine gi_call (l19Size_t (T := T) (L := s.lab b) (by omega) (hT b)) ?_ ?_ ?_; (focus (simp only [go_sem, seval, reduceCtorEq]; done)); (first | rfl | (focus (simp only [go_sem]; done))))
  simp (disch := omega) only [go_sem, seval, reduceCtorEq, hgn]
  (refine FnEnd.mk (Nat.le_of_ble_eq_true rfl) rfl (of_decide_eq_true rfl) ?_ ?_ <;> try simp only [go_sem, seval, reduceCtorEq])
end Go.Proofs.Ytjncdanegoileaa
