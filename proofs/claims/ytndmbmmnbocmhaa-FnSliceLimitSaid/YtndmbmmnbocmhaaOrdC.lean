/-
 Contracts: the state of an order, by the reference. No condition.
-/
import Derived.Test.YtndmbmmnbocmhaaMgSliceLimitA
import Derived.Test.YtndmbmmnbocmhaaOrdL
import Derived.Test.YtndmbmmnbocmhaaBoolA
import Derived.Test.YtndmbmmnbocmhaaConR
set_option linter.unusedSimpArgs false
set_option linter.unusedVariables false
namespace Go.Proofs.Ytndmbmmnbocmhaa
open Go.RowKit Go.Lift Plain
set_option maxRecDepth 100000
def shT (T : List Int) (l : List Int) : Ten := ⟨l, l.map (atT T), []⟩
def shA (T : List Int) (L : List (List Int)) : List AV := L.flatMap fun l => [.d (ints l), .d (ints (l.map (atT T))), .nil]
def shD (T : List Int) (L : List (List Int)) : List D := tcs (L.map (shT T))
section
variable {T : List Int} {L : List (List Int)} {k : Nat}
theorem shA_len : (shA T L).length = L.length * 3 := by
 induction L with
 | nil => rfl
 | cons x l ih => rw [shA, List.flatMap_cons, List.length_append, ← shA, ih]; simp; omega
theorem shD_len : (shD T L).length = L.length * 3 := by rw [shD, tcs_len, List.length_map]
theorem shA_drop : ∀ {L : List (List Int)} {k : Nat} (h : k < L.length), (shA T L).drop (k * 3) = .d (ints L[k]) :: .d (ints (L[k].map (atT T))) :: .nil :: shA T (L.drop (k + 1))
 | x :: l, 0, _ => by simp [shA]
 | x :: l, k + 1, h => by
  have := shA_drop (L := l) (k := k) (by simpa using h)
  rw [shA, List.flatMap_cons, ← shA, show (k + 1) * 3 = 3 + k * 3 by omega, ← List.drop_drop]
  simpa using this
theorem shA_cut (h : k < L.length) : ((shA T L).drop (k * 3)).take 3 = [.d (ints L[k]), .d (ints (L[k].map (atT T))), .nil] := by rw [shA_drop h]; rfl
theorem shD_cut (h : k < L.length) : ((shD T L).drop (k * 3)).take 3 = [ints L[k], ints (L[k].map (atT T)), .sl 0 []] := by
 rw [shD, tcs_cut (t := shT T L[k]) (by simp [h])]; rfl
theorem shA_snoc (l : List Int) : shA T L ++ [.d (.sl l.length (dv l)), .d (.sl (l.map (atT T)).length (dv (l.map (atT T)))), .nil] = shA T (L ++ [l]) := by simp [shA, ints]
theorem cellsD_shA : cellsD (shA T L) = some (shD T L) := by
 induction L with
 | nil => rfl
 | cons x l ih => simp only [shA, shD, List.flatMap_cons, List.map_cons, tcs, List.cons_append, List.nil_append, cellsD, cellD] at ih ⊢; rw [ih]; rfl
theorem rnL_shA (ρ : Nat → Option Nat) : rnL ρ (shA T L) = shA T L := by
 induction L with
 | nil => rfl
 | cons x l ih => simp only [shA, List.flatMap_cons, List.cons_append, List.nil_append, rnL, rn] at ih ⊢; rw [ih]
theorem mapL_shA (k e : Nat) (ls : List D) : mapL (fzG k e ls) (shA T L) = shA T L := by
 induction L with
 | nil => rfl
 | cons x l ih => simp only [shA, List.flatMap_cons, List.cons_append, List.nil_append, mapL, mapA] at ih ⊢; rw [ih]; rfl
theorem mapL_bv (k e : Nat) (ls : List D) (xs : List Bool) : mapL (fzG k e ls) (bv xs) = bv xs := by
 rw [mapL_eq, bv, List.map_map]
 exact List.map_congr_left fun x _ => rfl
end
attribute [go_sem] shA_len shD_len rnL_shA mapL_shA cellsD_shA shA_snoc mapL_bv
theorem l08Join_t {T A B : List Int} (ha : A.Nodup) (la : A.length ≤ 100) (hb : B.Nodup) (lb : B.length ≤ 100) :
  Does Try.prog 104 [.agg [.d (ints A), .d (ints (A.map (atT T))), .d (.sl 0 [])], .agg [.d (ints B), .d (ints (B.map (atT T))), .d (.sl 0 [])]] []
   (.tup [.own 0 0 (joinL A B).length, .own 1 0 (joinL A B).length, .d (.bool true)]) [some ⟨1, true, iv (joinL A B)⟩, some ⟨1, true, iv ((joinL A B).map (atT T))⟩] := by
 have lA : (A.map (atT T)).length = A.length := List.length_map ..
 have lB : (B.map (atT T)).length = B.length := List.length_map ..
 (refine spec_of (by kernel_rfl) Try.func104 k_spec_l08Join (fnOk (nb rfl) ?_); unfold C_spec_l08Join)
 (simp only [Nat.reduceSub, List.length_cons, List.length_nil, Nat.reduceAdd, ch_init1, ch_init2, ch_init3, ch_init4, ch_init5, ch_init6, ch_init7, ch_init8]; try simp only [ch_rep]); (simp only [go_sem, seval, reduceCtorEq, List.replicate])
 (refine ti_call (l05Ints_d (xs := A) (by omega)) ?_ ?_ ?_; (focus (simp only [go_sem, seval, reduceCtorEq]; done)); (first | rfl | (focus (simp only [go_sem]; done))))
 simp only [go_sem, seval, reduceCtorEq]
 (refine ti_call (l05Ints_d (xs := A.map (atT T)) (by omega)) ?_ ?_ ?_; (focus (simp only [go_sem, seval, reduceCtorEq]; done)); (first | rfl | (focus (simp only [go_sem]; done))))
 simp only [go_sem, seval, reduceCtorEq, lA, lB]
 refine wpN_lp (B.length) (mkB 60 288230376147668592) (fun k => [(21, .d (.int k)), (7, .own 2 0 (joinLT A B k).length), (8, .own 3 0 (joinLT A B k).length)]) (fun k => [(2, iv (joinLT A B k)), (3, iv ((joinLT A B k).map (atT T)))]) (h1 := by first | (simp only [go_sem, seval, reduceCtorEq, nz, na, n1, joinLT_zero]; first | done | rfl) | rfl) (h2 := by first | (simp only [go_sem, seval, reduceCtorEq, nz, na, n1, joinLT_zero]; first | done | rfl) | rfl) (hr := fun k hk => ?_)
 unfold L0_spec_l08Join
 by_cases hlt : k < B.length
 ·have h1 : (k : Int) < B.length := by omega
  have hx : B[k]? = some B[k] := List.getElem?_eq_getElem hlt
  have hf := fresh_of hb hlt
  have hdx : (B.map (atT T))[k]? = some (atT T B[k]) := by simp [hlt]
  have n1 := joinLT_len A B k
  have n2 : ((joinLT A B k).map (atT T)).length = (joinLT A B k).length := List.length_map ..
  simp (disch := omega) only [go_sem, seval, reduceCtorEq, h1, hx]
  (refine ti_call (l05Find_d (xs := joinLT A B k) (x := B[k]) (by omega)) ?_ ?_ ?_; (focus (simp only [go_sem, seval, reduceCtorEq]; done)); (first | rfl | (focus (simp only [go_sem]; done))))
  by_cases hma : B[k] ∈ A
  ·obtain ⟨i, hi, hp, hi2, _⟩ := place_mem (xs := joinLT A B k) (x := B[k]) (by rw [joinLT]; exact List.mem_append_left _ hma)
   have c1 : (i : Int) ≥ 0 := by omega
   have c0 : ¬ (i : Int) < 0 := by omega
   have c2 : (i : Int) < (joinLT A B k).length := by omega
   have hi5 : ((joinLT A B k).map (atT T))[i]? = some (atT T B[k]) := by rw [List.getElem?_map, List.getElem?_eq_getElem hi, hi2]; rfl
   have he : (atT T B[k] != atT T B[k]) = false := by simp
   simp (disch := omega) only [go_sem, seval, reduceCtorEq, hp, c0, c1, c2, ← List.getElem?_map, hi5, h1, hdx, he]
   (refine Next.drop (mkB 60 288230376147668592) (by omega) (h1 := ?_) (h2 := ?_) <;> first | (simp only [go_sem, seval, reduceCtorEq, nz, na, n1, joinLT_yes hlt hma]; first | done | rfl) | rfl | skip)
  ·have hp := place_no (joinLT_fresh hlt hf hma)
   simp (disch := omega) only [go_sem, seval, reduceCtorEq, hp, h1, hdx, n2]
   (repeat (refine And.intro (by omega) ?_))
   (refine Next.drop (mkB 60 288230376147668592) (by omega) (h1 := ?_) (h2 := ?_) <;> first | (simp only [go_sem, seval, reduceCtorEq, nz, na, n1, joinLT_no hlt hma, List.length_append, List.map_append, List.map_cons, List.map_nil]; first | done | rfl) | rfl | skip)
 ·have h1 : ¬ (k : Int) < B.length := by omega
  obtain rfl : k = B.length := by omega
  simp (disch := omega) only [go_sem, seval, reduceCtorEq, h1, joinLT_all]
  (refine FnEnd.mk (nb rfl) rfl (of_decide_eq_true rfl) ?_ ?_ <;> try simp only [go_sem, seval, reduceCtorEq])
def osQ (T : List Int) (s : Osd) : AV := .rptr [.sl s.all.length (shD T s.all), .sl s.gone.length (dbv s.gone)] 0
def stoQ (T : List Int) (s : Osd) : Sto := [some ⟨0, false, [.own 1 0 s.all.length, .own 2 0 s.gone.length]⟩, some ⟨3, true, shA T s.all⟩, some ⟨1, true, bv s.gone⟩]
def keepR (s : Osd) (a b q : Nat) : List Int := ((List.range q).filter fun i => Osd.off a b i && s.alive i).flatMap s.lab
section
variable {s : Osd} {os : List Int} {a b q m : Nat}
theorem keepR_zero : keepR s a b 0 = [] := rfl
theorem keepR_yes (h : (Osd.off a b q && s.alive q) = true) : keepR s a b (q + 1) = keepR s a b q ++ s.lab q := by
 unfold keepR
 rw [List.range_succ, List.filter_append, List.flatMap_append]
 simp [h]
theorem keepR_no (h : (Osd.off a b q && s.alive q) = false) : keepR s a b (q + 1) = keepR s a b q := by
 unfold keepR
 rw [List.range_succ, List.filter_append, List.flatMap_append]
 simp [h]
theorem keepR_all : os ++ keepR s a b s.all.length = s.keep os a b := by
 unfold keepR Osd.keep Osd.nums
 rw [List.filter_filter]
theorem keepR_len (h : OsOk s m) : ∀ q, (keepR s a b q).length ≤ q * 100
 | 0 => by simp [keepR]
 | q + 1 => by
  have ih := keepR_len h q
  have hl := h.len q
  cases e : Osd.off a b q && s.alive q
  ·rw [keepR_no e]; omega
  ·rw [keepR_yes e, List.length_append]; omega
end
theorem l17Keep_d {T os : List Int} {s : Osd} {m a b : Nat} (h : OsOk s m) (hm : m ≤ 1000) (ho : os.length ≤ 1048576) :
  Does Try.prog 106 [osQ T s, .d (ints os), .d (.int a), .d (.int b)] [] (.own 0 0 (s.keep os a b).length) [some ⟨1, true, iv (s.keep os a b)⟩] := by
 have hn := h.n
 have hg := h.gl
 (refine spec_of (by kernel_rfl) Try.func106 k_spec_l17Keep (fnOk (nb rfl) ?_); unfold C_spec_l17Keep)
 simp only [osQ]
 (simp only [Nat.reduceSub, List.length_cons, List.length_nil, Nat.reduceAdd, ch_init1, ch_init2, ch_init3, ch_init4, ch_init5, ch_init6, ch_init7, ch_init8]; try simp only [ch_rep]); (simp only [go_sem, seval, reduceCtorEq, List.replicate])
 (refine ti_call (l05Ints_d (xs := os) (by omega)) ?_ ?_ ?_; (focus (simp only [go_sem, seval, reduceCtorEq]; done)); (first | rfl | (focus (simp only [go_sem]; done))))
 simp only [go_sem, seval, reduceCtorEq]
 refine wpN_lp (s.all.length) (mkB 48 140737487318016) (fun k => [(19, .d (.int k)), (9, .own 0 0 (os ++ keepR s a b k).length)]) (fun k => [(0, iv (os ++ keepR s a b k))]) (h1 := by first | (simp only [go_sem, seval, reduceCtorEq, nz, na, n1, keepR_zero, List.append_nil]; first | done | rfl) | rfl) (h2 := by first | (simp only [go_sem, seval, reduceCtorEq, nz, na, n1, keepR_zero, List.append_nil]; first | done | rfl) | rfl) (hr := fun k hk => ?_)
 unfold L0_spec_l17Keep
 have hkl := keepR_len h (a := a) (b := b) k
 have hkl2 : (os ++ keepR s a b k).length = os.length + (keepR s a b k).length := List.length_append
 by_cases hlt : k < s.all.length
 ·have d1 : (k : Int) < s.all.length := by omega
  have d2 : (k : Int) < s.gone.length := by omega
  have g := shD_cut (T := T) hlt
  have hlab : s.lab k = s.all[k] := by simp [Osd.lab, hlt]
  have hlk := h.len k
  have gg : s.gone[k]? = some (!s.alive k) := by
   rw [List.getElem?_eq_getElem (by omega), Osd.alive, List.getD_eq_getElem?_getD, List.getElem?_eq_getElem (by omega)]; simp
  rw [← hlab] at g
  simp (disch := omega) only [go_sem, seval, reduceCtorEq, d1, g, d2, gg]
  refine ⟨by omega, ?_⟩
  cases e0 : s.alive k
  ·have e := keepR_no (s := s) (a := a) (b := b) (q := k) (by rw [e0, Bool.and_false])
   simp (disch := omega) only [go_sem, seval, reduceCtorEq, e0]
   (refine Next.drop (mkB 48 140737487318016) (by omega) (h1 := ?_) (h2 := ?_) <;> first | (simp only [go_sem, seval, reduceCtorEq, nz, na, n1, e]; first | done | rfl) | rfl | skip)
  ·by_cases h1 : k = a
   ·have e1 : (k != a) = false := by simp [h1]
    have c1 := natb_ne k a
    rw [e1] at c1
    have e := keepR_no (s := s) (a := a) (b := b) (q := k) (by simp [Osd.off, e1])
    simp (disch := omega) only [go_sem, seval, reduceCtorEq, e0, c1]
    (refine Next.drop (mkB 48 140737487318016) (by omega) (h1 := ?_) (h2 := ?_) <;> first | (simp only [go_sem, seval, reduceCtorEq, nz, na, n1, e]; first | done | rfl) | rfl | skip)
   ·have e1 : (k != a) = true := by simp [h1]
    have c1 := natb_ne k a
    rw [e1] at c1
    by_cases h2 : k = b
    ·have e2 : (k != b) = false := by simp [h2]
     have c2 := natb_ne k b
     rw [e2] at c2
     have e := keepR_no (s := s) (a := a) (b := b) (q := k) (by simp [Osd.off, e2])
     simp (disch := omega) only [go_sem, seval, reduceCtorEq, e0, c1, c2]
     (refine Next.drop (mkB 48 140737487318016) (by omega) (h1 := ?_) (h2 := ?_) <;> first | (simp only [go_sem, seval, reduceCtorEq, nz, na, n1, e]; first | done | rfl) | rfl | skip)
    ·have e2 : (k != b) = true := by simp [h2]
     have c2 := natb_ne k b
     rw [e2] at c2
     have e := keepR_yes (s := s) (a := a) (b := b) (q := k) (by simp [Osd.off, e1, e2, e0])
     simp (disch := omega) only [go_sem, seval, reduceCtorEq, e0, c1, c2]
     (repeat (refine And.intro (by omega) ?_))
     (refine Next.drop (mkB 48 140737487318016) (by omega) (h1 := ?_) (h2 := ?_) <;> first | (simp only [go_sem, seval, reduceCtorEq, nz, na, n1, e, ← List.append_assoc, List.length_append]; first | done | rfl) | rfl | skip)
 ·have d1 : ¬ (k : Int) < s.all.length := by omega
  obtain rfl : k = s.all.length := by omega
  simp (disch := omega) only [go_sem, seval, reduceCtorEq, d1, keepR_all]
  (refine FnEnd.mk (nb rfl) rfl (of_decide_eq_true rfl) ?_ ?_ <;> try simp only [go_sem, seval, reduceCtorEq])
theorem dimAt_netO {N : Net} (h : netOk N = true) {t : Ten} (ht : t ∈ N.ts) {x : Int} (hx : x ∈ t.labels) : dimAt t x = dimN N.ts x := by
 obtain ⟨k, hk, rfl⟩ := List.mem_iff_getElem.1 ht
 have hax := netOk_ax h
 have hc := (netOk_iff.1 h).2.2.2.1 k hk x hk hx
 have hd := dimAt_bd (hax _ (List.getElem_mem hk)) hx
 have h1 : dimN (N.ts.take (k + 1)) x = dimAt N.ts[k] x := by
  rw [dimN_next hax hk, if_pos hx]
  split
  ·rfl
  ·rcases hc with e | e
   ·rename_i h0; exact absurd e h0
   ·exact e
 have h2 := dimN_app (N.ts.take (k + 1)) (N.ts.drop (k + 1)) x fun t ht hx => by
  have := dimAt_bd (hax t (List.mem_of_mem_take ht)) hx
  omega
 rw [List.take_append_drop, h1, if_neg (by omega)] at h2
 exact h2.symm
theorem dims_net {N : Net} (h : netOk N = true) {t : Ten} (ht : t ∈ N.ts) : t.labels.map (atT (dimsR N.ts).1) = t.dims := by
 have hax := netOk_ax h
 have hok := (netOk_iff.1 h).2.2.2.1
 have hD := dimsR_ok hax
 rw [← dims_map (hax t ht)]
 refine List.map_congr_left fun x hx => ?_
 have hb : 0 ≤ x ∧ x ≤ 99 := by
  obtain ⟨k, hk, rfl⟩ := List.getElem_of_mem hx
  have := (hax t ht).2.2 k hk
  unfold axAt at this
  rw [getD_of hk] at this
  omega
 rw [hD.2 (hD.1.2 hok) x hb, dimAt_netO h ht hx]
theorem l17New_d {N : Net} (h : NSz 1048576 N) (hok : netOk N = true) :
  Does Try.prog 93 [netA N] [] (.ptr 0 0) (stoQ (dimsR N.ts).1 (osInit N.ts)) := by
 have hnl := h.l
 have h12 := (netOk_iff.1 hok).2.1
 (refine spec_ofK (by kernel_rfl) Try.func93 k_spec_l17New (fnOk (nb rfl) ?_); unfold C_spec_l17New)
 simp only [stoQ]
 (simp only [Nat.reduceSub, List.length_cons, List.length_nil, Nat.reduceAdd, ch_init1, ch_init2, ch_init3, ch_init4, ch_init5, ch_init6, ch_init7, ch_init8]; try simp only [ch_rep]); (simp only [go_sem, seval, reduceCtorEq, List.replicate])
 (refine wpN_lwk (Wk.nilS 1 0 3 _ _ _ rfl rfl) ?_; simp only [go_sem, seval, reduceCtorEq])
 (refine wpN_lwk (Wk.nilS 1 1 1 _ _ _ rfl rfl) ?_; simp only [go_sem, seval, reduceCtorEq])
 generalize hT : (dimsR N.ts).1 = T at *
 have hz : shA T ((osInit N.ts).all.take 0) = [] := rfl
 have hal : (osInit N.ts).all.length = N.ts.length := by simp [osInit]
 have hgl : (osInit N.ts).gone.length = N.ts.length := by simp [osInit]
 refine wpN_lp (N.ts.length) (mkB 40 549755809824) (fun k => [(11, .d (.int k))]) (fun k => [(1, [.own 2 0 k, .own 3 0 k]), (2, shA T ((osInit N.ts).all.take k)), (3, bv (List.replicate k false))]) (h1 := by first | (simp only [go_sem, seval, reduceCtorEq, nz, na, n1, hz, List.replicate_zero, bv_nil]; first | done | rfl) | rfl) (h2 := by first | (simp only [go_sem, seval, reduceCtorEq, nz, na, n1, hz, List.replicate_zero, bv_nil]; first | done | rfl) | rfl) (hr := fun k hk => ?_)
 unfold L0_spec_l17New
 by_cases hlt : k < N.ts.length
 ·have d1 : (k : Int) < N.ts.length := by omega
  have g3 := tcs_cut (List.getElem?_eq_getElem hlt)
  have hst := h.t N.ts[k] (List.getElem_mem hlt)
  have hdm := dims_net hok (List.getElem_mem hlt)
  rw [hT] at hdm
  have htl : ((osInit N.ts).all.take k).length = k := by simp [hal]; omega
  have hrl : (List.replicate k false).length = k := List.length_replicate
  have hrow : shA T ((osInit N.ts).all.take k) ++ [.d (.sl N.ts[k].labels.length (dv N.ts[k].labels)), .d (.sl N.ts[k].dims.length (dv N.ts[k].dims)), .nil] = shA T ((osInit N.ts).all.take (k + 1)) := by
   rw [take_ss (by omega), ← hdm]
   simp [shA, ints, osInit]
  have hrep : List.replicate k false ++ [false] = List.replicate (k + 1) false := List.replicate_succ'.symm
  simp (disch := omega) only [go_sem, seval, reduceCtorEq, d1, g3, htl]
  (repeat (refine And.intro (by omega) ?_))
  simp (disch := omega) only [go_sem, seval, reduceCtorEq, hrow, htl, hrl]
  (repeat (refine And.intro (by omega) ?_))
  simp (disch := omega) only [go_sem, seval, reduceCtorEq, hrep, htl, hrl]
  (repeat (refine And.intro (by omega) ?_))
  (refine Next.drop (mkB 40 549755809824) (by omega) (h1 := ?_) (h2 := ?_) <;> first | (simp only [go_sem, seval, reduceCtorEq, nz, na, n1, hrow, hrep]; first | done | rfl) | rfl | skip)
 ·have d1 : ¬ (k : Int) < N.ts.length := by omega
  obtain rfl : k = N.ts.length := by omega
  have hat : (osInit N.ts).all.take N.ts.length = (osInit N.ts).all := List.take_of_length_le (by omega)
  have hgn : List.replicate N.ts.length false = (osInit N.ts).gone := rfl
  simp (disch := omega) only [go_sem, seval, reduceCtorEq, d1, hat, hgn]
  (refine FnEnd.mkI [1, 2, 3] (nb rfl) rfl (of_decide_eq_true rfl) rfl ?_ ?_ <;> try simp only [go_sem, seval, reduceCtorEq])
  all_goals simp only [hal, hgl]
theorem atT_join {T J K : List Int} (hn : J.Nodup) (hs : ∀ x ∈ K, x ∈ J) : K.map (dAt J (J.map (atT T))) = K.map (atT T) := List.map_congr_left fun x hx => by
 obtain ⟨i, hi, e1, e2, _⟩ := place_mem (hs x hx)
 rw [dAt, e1]
 simp [List.getD_eq_getElem?_getD, hi, e2]
def capP (T L : List Int) : Int := min (prodI (L.map (atT T))) 1000000000
theorem l17Step_d {T os : List Int} {s : Osd} {m a b : Nat} (h : OsOk s m) (hm : m ≤ 1000) (ho : os.length ≤ 1048576) (ha : a < m) (hb : b < m) (hT : ∀ i, i < m → ∀ x ∈ s.lab i, 1 ≤ atT T x ∧ atT T x ≤ 8) :
  Does Try.prog 94 [.ptr 0 0, .d (ints os), .agg [.d (.int a), .d (.int b)]] (stoQ T s) (.d (.int (capP T (joinL (s.lab a) (s.lab b))))) (stoQ T (s.step os a b)) := by
 have hn := h.n
 have hg := h.gl
 have la : s.lab a = s.all[a] := by simp [Osd.lab, show a < s.all.length by omega]
 have lb : s.lab b = s.all[b] := by simp [Osd.lab, show b < s.all.length by omega]
 have ga := shA_cut (T := T) (show a < s.all.length by omega)
 have gb := shA_cut (T := T) (show b < s.all.length by omega)
 rw [← la] at ga
 rw [← lb] at gb
 have ia : (a : Int) < s.all.length := by omega
 have ib : (b : Int) < s.all.length := by omega
 have ja : (a : Int) < s.gone.length := by omega
 have jb : (b : Int) < s.gone.length := by omega
 obtain ⟨hjn, hjb, hjl⟩ := h.join a b
 (refine spec_ofK (by kernel_rfl) Try.func94 k_spec_l17Step (fnOk (nb rfl) ?_); unfold C_spec_l17Step)
 simp only [stoQ]
 (simp only [Nat.reduceSub, List.length_cons, List.length_nil, Nat.reduceAdd, ch_init1, ch_init2, ch_init3, ch_init4, ch_init5, ch_init6, ch_init7, ch_init8]; try simp only [ch_rep]); (simp only [go_sem, seval, reduceCtorEq, List.replicate])
 simp (disch := omega) only [go_sem, seval, reduceCtorEq, ia, ib, ga, gb]
 (repeat (refine And.intro (by omega) ?_))
 (refine gi_call (l08Join_t (T := T) (h.at a).1 (h.len a) (h.at b).1 (h.len b)) ?_ ?_ ?_; (focus (simp only [go_sem, seval, reduceCtorEq]; done)); (first | rfl | (focus (simp only [go_sem]; done))))
 simp only [go_sem, seval, reduceCtorEq]
 have hta : List.take (s.all.length * 3) (shA T s.all) = shA T s.all := List.take_of_length_le (by rw [shA_len]; exact Nat.le_refl _)
 (refine ti_call (l17Keep_d (T := T) (a := a) (b := b) h hm ho) ?_ ?_ ?_; (focus (simp only [go_sem, seval, reduceCtorEq, osQ, hta, List.take_length]; done)); (first | rfl | (focus (simp only [go_sem]; done))))
 have hkl : (s.keep os a b).length ≤ 1048576 + 100000 := by
  rw [← keepR_all, List.length_append]
  have := keepR_len h (a := a) (b := b) s.all.length
  omega
 generalize hK : s.keep os a b = K at *
 simp only [go_sem, seval, reduceCtorEq]
 generalize hJ : joinL (s.lab a) (s.lab b) = J at *
 have hres : s.res os a b = J.filter (has K) := by rw [Osd.res, hJ, hK]
 have hml : (J.map (atT T)).length = J.length := List.length_map ..
 have htj : List.take J.length (J.map (atT T)) = J.map (atT T) := List.take_of_length_le (by omega)
 (refine ti_call (l08Keep_d (ls := J) (ds := J.map (atT T)) (keep := K) hjn (by omega) (by omega) (by omega)) ?_ ?_ ?_; (focus (simp only [go_sem, seval, reduceCtorEq, hml, htj, List.take_length]; done)); (first | rfl | (focus (simp only [go_sem]; done))))
 have hdm : (J.filter (has K)).map (dAt J (J.map (atT T))) = (J.filter (has K)).map (atT T) := atT_join hjn fun x hx => (List.mem_filter.1 hx).1
 simp (disch := omega) only [go_sem, seval, reduceCtorEq, hdm, ja, jb]
 rw [← hres]
 generalize hX : s.res os a b = X at *
 have p1 := putG (xs := s.gone) (i := a) (v := true) (by omega)
 have p2 := putG (xs := s.gone.set a true) (i := b) (v := true) (by simp; omega)
 have p4 : (s.gone.set a true).length = s.gone.length := by simp
 have p5 : ((s.gone.set a true).set b true).length = s.gone.length := by simp
 simp (disch := omega) only [go_sem, seval, reduceCtorEq, p1, p4]
 (repeat (refine And.intro (by omega) ?_))
 simp (disch := omega) only [go_sem, seval, reduceCtorEq, p2, p5, jb]
 (repeat (refine And.intro (by omega) ?_))
 have hJb : ∀ d ∈ J.map (atT T), 1 ≤ d ∧ d ≤ 100 := fun d hd => by
  obtain ⟨x, hx, rfl⟩ := List.mem_map.1 hd
  rw [← hJ] at hx
  rcases mem_joinL.1 hx with hx | hx
  ·have := hT a ha x hx; omega
  ·have := hT b hb x hx; omega
 (refine ti_call (l05Product_d (ds := J.map (atT T)) (lim := 1000000000) (by omega) hJb (by omega)) ?_ ?_ ?_; (focus (simp only [go_sem, seval, reduceCtorEq, hml, htj]; done)); (first | rfl | (focus (simp only [go_sem]; done))))
 have hmin : min 1000000000 (min (prodI (J.map (atT T))) 1000000001) = capP T J := by unfold capP; omega
 have hst : s.step os a b = ⟨s.all ++ [X], (s.gone.set a true).set b true ++ [false]⟩ := by rw [Osd.step, hX]
 simp (disch := omega) only [go_sem, seval, reduceCtorEq, hmin]
 (refine FnEnd.wk (Wk.freeze 7 (nb rfl) rfl (cellsD_iv) rfl rfl) ?_); (simp only [go_sem, seval, reduceCtorEq, List.take_length])
 have hmx : (X.map (atT T)).length = X.length := List.length_map ..
 have htx : List.take X.length (X.map (atT T)) = X.map (atT T) := List.take_of_length_le (by omega)
 (refine FnEnd.wk (Wk.freeze 8 (nb rfl) rfl (cellsD_iv) rfl rfl) ?_); (simp only [go_sem, seval, reduceCtorEq, htx])
 have hsn : shA T s.all ++ [.d (.sl X.length (dv X)), .d (.sl X.length (dv (X.map (atT T)))), .nil] = shA T (s.all ++ [X]) := by rw [← shA_snoc, hmx]
 have q1 : (s.all ++ [X]).length = s.all.length + 1 := by simp
 have q2 : ((s.gone.set a true).set b true ++ [false]).length = s.gone.length + 1 := by simp
 (refine FnEnd.mk (nb rfl) rfl (of_decide_eq_true rfl) ?_ ?_ <;> try simp only [go_sem, seval, reduceCtorEq])
 all_goals simp only [hst, hsn, q1, q2]
end Go.Proofs.Ytndmbmmnbocmhaa
