/-
 Contracts: joined labels and axes, the size of a join. No condition.
-/
import Derived.Test.YtndmbmmnbocmhaaRngC
import Derived.Test.YtndmbmmnbocmhaaLiftG
set_option linter.unusedSimpArgs false
set_option linter.unusedVariables false
namespace Go.Proofs.Ytndmbmmnbocmhaa
open Go.RowKit Go.Lift Plain
set_option maxRecDepth 100000
theorem l05Ints_d {xs : List Int} (h : xs.length ≤ 1099511627776) : Does Try.prog 38 [.d (ints xs)] [] (.own 0 0 xs.length) [some ⟨1, true, iv xs⟩] := by
 (refine spec_of (by kernel_rfl) Try.func38 k_spec_l05Ints (fnOk (nb rfl) ?_); unfold C_spec_l05Ints)
 (simp only [Nat.reduceSub, List.length_cons, List.length_nil, Nat.reduceAdd, ch_init1, ch_init2, ch_init3, ch_init4, ch_init5, ch_init6, ch_init7, ch_init8]; try simp only [ch_rep]); (simp only [go_sem, seval, reduceCtorEq, List.replicate])
 refine ⟨by omega, ?_⟩
 (refine FnEnd.mk (nb rfl) rfl (of_decide_eq_true rfl) ?_ ?_ <;> try simp only [go_sem, seval, reduceCtorEq])
theorem joinLabels_d {a b : List Int} (ha : a.length ≤ 1048576) (hb : b.length ≤ 1048576) : Does Try.prog 53 [.d (ints a), .d (ints b)] [] (.own 0 0 (joinL a b).length) [some ⟨1, true, iv (joinL a b)⟩] := by
 (refine spec_of (by kernel_rfl) Try.func53 k_impl_joinLabels (fnOk (nb rfl) ?_); unfold C_impl_joinLabels)
 (simp only [Nat.reduceSub, List.length_cons, List.length_nil, Nat.reduceAdd, ch_init1, ch_init2, ch_init3, ch_init4, ch_init5, ch_init6, ch_init7, ch_init8]; try simp only [ch_rep]); (simp only [go_sem, seval, reduceCtorEq, List.replicate])
 (refine ti_call (copyInts_d (xs := a) (by omega)) ?_ ?_ ?_; (focus (simp only [go_sem, seval, reduceCtorEq]; done)); (first | rfl | (focus (simp only [go_sem]; done))))
 simp only [go_sem, seval, reduceCtorEq]
 refine wpN_upto (b.length) (fun k => (ch (.d (ints a)) (.any) (.any) (.any) (.any) (.own 0 0 (a ++ (b.take k).filter fun x => !has a x).length) (.any) (.any) (.any) (.any) (.d (ints b)) (.d (.int b.length)) (.d (.int k)) (.any) (.any) (.any) [.any, .any, .any, .any, .any, .any, .any, .any, .any, .any])) (fun k => [some ⟨1, true, iv (a ++ (b.take k).filter fun x => !has a x)⟩]) (Wk.kept' [0, 5, 10, 11, 12] 1 (nb rfl) (by first | rfl | simp only [go_sem, seval, reduceCtorEq, keepE, keepF_ch, keepG_ch, keepF, keepG, cut, List.contains_cons, List.contains_nil, Nat.reduceBEq, Int.natCast_zero, Int.natCast_add, Int.natCast_one, List.take_zero, List.filter_nil, List.append_nil]) (by first | rfl | simp only [go_sem, seval, reduceCtorEq, keepE, keepF_ch, keepG_ch, keepF, keepG, cut, List.contains_cons, List.contains_nil, Nat.reduceBEq, Int.natCast_zero, Int.natCast_add, Int.natCast_one, List.take_zero, List.filter_nil, List.append_nil])) fun k hk => ?_
 unfold L0_impl_joinLabels
 by_cases hlt : k < b.length
 ·have h1 : (k : Int) < b.length := by omega
  have hx : b[k]? = some b[k] := List.getElem?_eq_getElem hlt
  have hf := filter_len b k fun x => !has a x
  simp (disch := omega) only [go_sem, seval, reduceCtorEq, h1, hx]
  (refine ti_call (hasInt_d (xs := a) (x := b[k]) (by omega)) ?_ ?_ ?_; (focus (simp only [go_sem, seval, reduceCtorEq]; done)); (first | rfl | (focus (simp only [go_sem]; done))))
  cases he : has a b[k]
  ·simp (disch := omega) only [go_sem, seval, reduceCtorEq, he]
   refine ⟨by rw [List.length_append]; omega, ?_⟩
   (refine Next.mk hlt (Wk.kept' [0, 5, 10, 11, 12] 1 (nb rfl) ?_ ?_) <;> first | rfl | (simp only [go_sem, seval, reduceCtorEq, keepE, keepF_ch, keepG_ch, keepF, keepG, cut, List.contains_cons, List.contains_nil, Nat.reduceBEq, Int.natCast_zero, Int.natCast_add, Int.natCast_one, filter_yes (p := fun x => !has a x) hlt (by rw [he]; rfl), List.length_append, List.append_assoc, Nat.add_assoc]; done) | skip)
  ·simp (disch := omega) only [go_sem, seval, reduceCtorEq, he]
   (refine Next.mk hlt (Wk.kept' [0, 5, 10, 11, 12] 1 (nb rfl) ?_ ?_) <;> first | rfl | (simp only [go_sem, seval, reduceCtorEq, keepE, keepF_ch, keepG_ch, keepF, keepG, cut, List.contains_cons, List.contains_nil, Nat.reduceBEq, Int.natCast_zero, Int.natCast_add, Int.natCast_one, filter_no (p := fun x => !has a x) hlt (by rw [he]; rfl)]; done) | skip)
 ·have h1 : ¬ (k : Int) < b.length := by omega
  simp (disch := omega) only [go_sem, seval, reduceCtorEq, h1]
  (refine FnEnd.mk (nb rfl) rfl (of_decide_eq_true rfl) ?_ ?_ <;> try simp only [go_sem, seval, reduceCtorEq])
  all_goals rw [List.take_of_length_le (by omega)]; rfl
set_option maxRecDepth 100000
theorem copyTensor_d {t : Ten} (h : TSz 1048576 t) : Does Try.prog 79 [tenA t] [] (ownT 0 t) (stoT t) := by
 (refine spec_of (by kernel_rfl) Try.func79 k_impl_copyTensor (fnOk (nb rfl) ?_); unfold C_impl_copyTensor)
 (simp only [Nat.reduceSub, List.length_cons, List.length_nil, Nat.reduceAdd, ch_init1, ch_init2, ch_init3, ch_init4, ch_init5, ch_init6, ch_init7, ch_init8]; try simp only [ch_rep]); (simp only [go_sem, seval, reduceCtorEq, List.replicate])
 (refine gi_call (copyInts_d (xs := t.labels) h.l.up.len) ?_ ?_ ?_; (focus (simp only [go_sem, seval, reduceCtorEq]; done)); (first | rfl | (focus (simp only [go_sem]; done))))
 simp only [go_sem, seval, reduceCtorEq]
 (refine gi_call (copyInts_d (xs := t.dims) h.d.up.len) ?_ ?_ ?_; (focus (simp only [go_sem, seval, reduceCtorEq]; done)); (first | rfl | (focus (simp only [go_sem]; done))))
 simp only [go_sem, seval, reduceCtorEq]
 (refine ti_call (copyInts_d (xs := t.data) h.x.up.len) ?_ ?_ ?_; (focus (simp only [go_sem, seval, reduceCtorEq]; done)); (first | rfl | (focus (simp only [go_sem]; done))))
 simp only [go_sem, seval, reduceCtorEq]
 (refine FnEnd.mk (nb rfl) rfl (of_decide_eq_true rfl) ?_ ?_ <;> try simp only [go_sem, seval, reduceCtorEq])
theorem l05Copy_d {t : Ten} (h : TSz 1048576 t) : Does Try.prog 95 [tenA t] [] (ownT 0 t) (stoT t) := by
 (refine spec_of (by kernel_rfl) Try.func95 k_spec_l05Copy (fnOk (nb rfl) ?_); unfold C_spec_l05Copy)
 (simp only [Nat.reduceSub, List.length_cons, List.length_nil, Nat.reduceAdd, ch_init1, ch_init2, ch_init3, ch_init4, ch_init5, ch_init6, ch_init7, ch_init8]; try simp only [ch_rep]); (simp only [go_sem, seval, reduceCtorEq, List.replicate])
 (refine gi_call (l05Ints_d (xs := t.labels) h.l.up.len) ?_ ?_ ?_; (focus (simp only [go_sem, seval, reduceCtorEq]; done)); (first | rfl | (focus (simp only [go_sem]; done))))
 simp only [go_sem, seval, reduceCtorEq]
 (refine gi_call (l05Ints_d (xs := t.dims) h.d.up.len) ?_ ?_ ?_; (focus (simp only [go_sem, seval, reduceCtorEq]; done)); (first | rfl | (focus (simp only [go_sem]; done))))
 simp only [go_sem, seval, reduceCtorEq]
 (refine ti_call (l05Ints_d (xs := t.data) h.x.up.len) ?_ ?_ ?_; (focus (simp only [go_sem, seval, reduceCtorEq]; done)); (first | rfl | (focus (simp only [go_sem]; done))))
 simp only [go_sem, seval, reduceCtorEq]
 (refine FnEnd.mk (nb rfl) rfl (of_decide_eq_true rfl) ?_ ?_ <;> try simp only [go_sem, seval, reduceCtorEq])
theorem iv_nil : iv [] = [] := rfl
attribute [go_sem] iv_nil
set_option maxRecDepth 100000
def putE (xs : List Int) (off : Nat) (ys : List Int) : List Int := xs.take off ++ ys ++ xs.drop (off + ys.length)
theorem putE_len {xs ys : List Int} {off : Nat} (h : off + ys.length ≤ xs.length) : (putE xs off ys).length = xs.length := by simp [putE]; omega
theorem putE_get {xs ys : List Int} {off i : Nat} (h : off + ys.length ≤ xs.length) : (putE xs off ys)[i]? = if off ≤ i ∧ i < off + ys.length then ys[i - off]? else xs[i]? := by
 unfold putE
 by_cases h1 : i < off
 ·rw [if_neg (by omega), List.append_assoc, List.getElem?_append_left (by simp; omega), List.getElem?_take, if_pos h1]
 ·by_cases h2 : i < off + ys.length
  ·rw [if_pos (by omega), List.getElem?_append_left (by simp; omega), List.getElem?_append_right (by simp; omega)]
   congr 1
   simp; omega
  ·rw [if_neg (by omega), List.getElem?_append_right (by simp; omega), List.getElem?_drop]
   congr 1
   simp; omega
theorem putE_next {xs ys : List Int} {off k : Nat} (h : off + ys.length ≤ xs.length) (hk : k < ys.length) :
  (putE xs off (ys.take k)).take (off + k) ++ [ys[k]] ++ (putE xs off (ys.take k)).drop (off + k + 1) = putE xs off (ys.take (k + 1)) := by
 have hl : (ys.take k).length = k := by simp; omega
 rw [put_set (by rw [putE_len (by omega)]; omega)]
 refine List.ext_getElem? fun i => ?_
 rw [List.getElem?_set, putE_get (by omega), putE_get (by simp; omega), putE_len (by omega)]
 have hl2 : (ys.take (k + 1)).length = k + 1 := by simp; omega
 rw [hl, hl2]
 by_cases h1 : off + k = i
 ·subst h1
  rw [if_pos rfl, if_pos (by omega), if_pos (by omega), List.getElem?_take, if_pos (by omega), show off + k - off = k by omega, List.getElem?_eq_getElem hk]
 ·rw [if_neg h1]
  by_cases h2 : off ≤ i ∧ i < off + k
  ·rw [if_pos h2, if_pos (by omega), List.getElem?_take, List.getElem?_take, if_pos (by omega), if_pos (by omega)]
  ·rw [if_neg h2, if_neg (by omega)]
theorem putE_zero (xs : List Int) (off : Nat) : putE xs off [] = xs := by simp [putE]
theorem l05Copy_f {t : Ten} (h : TSz 1048576 t) : Does Try.prog 95 [tenA t] [] (ownT 0 t) (stoF t) := (l05Copy_d h).nog [0, 1, 2] rfl
theorem l05Put_d {x wd : Nat} {kk pp nn : Int} {t : Ten} {ys : List Int} (hw : width ⟨kk, pp, nn⟩ = (wd : Int)) (hy : ys.length = wd) (h1 : 1 ≤ wd ∧ wd ≤ 6) (hx : x * wd + wd ≤ t.data.length) (hx2 : x ≤ 1099511627776) (h : t.data.length ≤ 1099511627776) :
  Does Try.prog 86 [ringA kk pp nn, ownT 0 t, .d (.int x), .d (ints ys)] (stoF t) (.tup []) (stoF ⟨t.labels, t.dims, putE t.data (x * wd) ys⟩) := by
 (refine spec_of (by kernel_rfl) Try.func86 k_spec_l05Put (fnOk (nb rfl) ?_); unfold C_spec_l05Put)
 (simp only [Nat.reduceSub, List.length_cons, List.length_nil, Nat.reduceAdd, ch_init1, ch_init2, ch_init3, ch_init4, ch_init5, ch_init6, ch_init7, ch_init8]; try simp only [ch_rep]); (simp only [go_sem, seval, reduceCtorEq, List.replicate])
 (refine ti_call (l02Width_d kk pp nn) ?_ ?_ ?_; (focus (simp only [go_sem, seval, reduceCtorEq]; done)); (first | rfl | (focus (simp only [go_sem]; done))))
 simp only [go_sem, seval, reduceCtorEq, hw]
 refine wpN_upto (ys.length) (fun k => (ch (.any) (.any) (.d (.int x)) (.d (ints ys)) (.any) (.ptr 4 0) (.any) (.any) (.d (.int wd)) (.any) (.any) (.any) (.any) (.d (.int ys.length)) (.d (.int k)) (.any) [.any, .any, .any, .any, .any, .any, .any, .any, .any, .any, .any, .any, .any, .any])) (fun k => [some ⟨1, false, iv t.labels⟩, some ⟨1, false, iv t.dims⟩, some ⟨1, false, iv (putE t.data (x * wd) (ys.take k))⟩, some ⟨0, false, [.d (.int kk), .d (.int pp), .d (.int nn)]⟩, some ⟨0, false, [.own 0 0 t.labels.length, .own 1 0 t.dims.length, .own 2 0 t.data.length]⟩]) (Wk.kept' [2, 3, 5, 8, 13, 14] 5 (nb rfl) (by first | rfl | simp only [go_sem, seval, reduceCtorEq, keepE, keepF_ch, keepG_ch, keepF, keepG, cut, List.contains_cons, List.contains_nil, Nat.reduceBEq, Int.natCast_zero, Int.natCast_add, Int.natCast_one, List.take_zero, putE_zero]) (by first | rfl | simp only [go_sem, seval, reduceCtorEq, keepE, keepF_ch, keepG_ch, keepF, keepG, cut, List.contains_cons, List.contains_nil, Nat.reduceBEq, Int.natCast_zero, Int.natCast_add, Int.natCast_one, List.take_zero, putE_zero])) fun k hk => ?_
 unfold L0_spec_l05Put
 by_cases hlt : k < ys.length
 ·have h1 : (k : Int) < ys.length := by omega
  have hx : ys[k]? = some ys[k] := List.getElem?_eq_getElem hlt
  have e1 : (x : Int) * wd = (x * wd : Nat) := by push_cast; rfl
  have e2 : ((x * wd : Nat) : Int) + k = (x * wd + k : Nat) := by push_cast; rfl
  have hlk : (ys.take k).length = k := by simp; omega
  have hpl : (putE t.data (x * wd) (ys.take k)).length = t.data.length := putE_len (by omega)
  have hn := putE_next (xs := t.data) (ys := ys) (off := x * wd) (k := k) (by omega) hlt
  simp (disch := omega) only [go_sem, seval, reduceCtorEq, h1, hx, e1, e2]
  refine ⟨by omega, by rw [hpl]; omega, ?_⟩
  (refine Next.mk hlt (Wk.kept' [2, 3, 5, 8, 13, 14] 5 (nb rfl) ?_ ?_) <;> first | rfl | (simp only [go_sem, seval, reduceCtorEq, keepE, keepF_ch, keepG_ch, keepF, keepG, cut, List.contains_cons, List.contains_nil, Nat.reduceBEq, Int.natCast_zero, Int.natCast_add, Int.natCast_one, hn]; done) | skip)
 ·have h1 : ¬ (k : Int) < ys.length := by omega
  simp (disch := omega) only [go_sem, seval, reduceCtorEq, h1]
  (refine FnEnd.mk (nb rfl) rfl (of_decide_eq_true rfl) ?_ ?_ <;> try simp only [go_sem, seval, reduceCtorEq])
  all_goals rw [List.take_of_length_le (by omega)]
set_option maxRecDepth 100000
set_option maxRecDepth 100000
theorem l05PutV_d {x wd l d m : Nat} {kk pp nn : Int} {ca cb cc ys : List Int} (hl : l = ca.length) (hd : d = cb.length) (hm : m = cc.length) (hw : width ⟨kk, pp, nn⟩ = (wd : Int)) (hy : ys.length = wd) (h1 : 1 ≤ wd ∧ wd ≤ 6) (hx : x * wd + wd ≤ m) (hx2 : x ≤ 1099511627776) (h : m ≤ 1099511627776) :
  Does Try.prog 86 [ringA kk pp nn, .agg [.own 0 0 l, .own 1 0 d, .own 2 0 m], .d (.int x), .d (ints ys)] [some ⟨1, false, iv ca⟩, some ⟨1, false, iv cb⟩, some ⟨1, false, iv cc⟩] (.tup []) [some ⟨1, false, iv ca⟩, some ⟨1, false, iv cb⟩, some ⟨1, false, iv (putE cc (x * wd) ys)⟩] := by
 subst hl hd hm
 exact l05Put_d (t := ⟨ca, cb, cc⟩) hw hy h1 hx hx2 h
theorem fits_cut {r : Rg} {xs : List Int} (h : fits r xs) (a b : Nat) : fits r ((xs.drop a).take b) := by
 intro k hk
 have hk' : k < b ∧ k < xs.length - a := by simpa [Nat.lt_min] using hk
 have := h (a + k) (by omega)
 rw [getD_of hk]
 simp only [List.getElem_take, List.getElem_drop]
 rwa [getD_of (by omega)] at this
theorem mul_step {i n wd : Nat} (h : i < n) : i * wd + wd ≤ n * wd := by
 have : (i + 1) * wd ≤ n * wd := Nat.mul_le_mul_right wd h
 rw [Nat.add_mul, Nat.one_mul] at this
 exact this
theorem ten_facts {r : Rg} {t : Ten} (h : tensorOk r t.labels t.dims t.data = true) : ∃ wd n : Nat, width r = wd ∧ prodI t.dims = n ∧ 1 ≤ wd ∧ wd ≤ 6 ∧ 1 ≤ n ∧ n ≤ 4096 ∧ t.data.length = n * wd ∧ fits r t.data ∧ ringOk r = true ∧ axOk t.labels t.dims := by
 obtain ⟨f1, f2, f3, f4, f5, f6⟩ := tensorOk_facts h
 have hw := width_bd f1
 refine ⟨(width r).toNat, (prodI t.dims).toNat, by omega, by omega, by omega, by omega, by omega, by omega, ?_, ?_, f1, f2⟩
 ·have : (t.data.length : Int) = ((prodI t.dims).toNat * (width r).toNat : Nat) := by
   rw [f6]; push_cast; rw [Int.toNat_of_nonneg (by omega), Int.toNat_of_nonneg (by omega)]
  omega
 ·simp only [tensorOk, Bool.and_eq_true, fitsB, decide_eq_true_eq] at h
  exact h.2
set_option maxRecDepth 100000
def sameB (ls L : List Int) : Bool := decide (L.length = ls.length ∧ ∀ k (hk : k < L.length), L[k] ∈ ls ∧ L[k] ∉ L.take k)
theorem nodup_len_le : ∀ {L ls : List Int}, L.Nodup → (∀ x ∈ L, x ∈ ls) → L.length ≤ ls.length
 | [], ls, _, _ => Nat.zero_le _
 | l :: L, ls, hn, hs => by
  simp only [List.nodup_cons] at hn
  have hl : l ∈ ls := hs l (by simp)
  have h1 := nodup_len_le (L := L) (ls := ls.erase l) hn.2 (fun y hy => (List.mem_erase_of_ne (fun (e : y = l) => hn.1 (e ▸ hy))).2 (hs y (by simp [hy])))
  have h2 := List.length_erase_of_mem hl
  have h3 := List.length_pos_of_mem hl
  simp only [List.length_cons]
  omega
def wol (ls L : List Int) : List Int := ls.filter fun x => !has L x
theorem wol_len (ls L : List Int) : (wol ls L).length ≤ ls.length := List.length_filter_le _ _
theorem wol_mem {ls L : List Int} {y : Int} : y ∈ wol ls L ↔ y ∈ ls ∧ y ∉ L := by simp [wol, has]
def distB (ls L : List Int) : Bool := decide (∀ k (hk : k < L.length), L[k] ∈ ls ∧ L[k] ∉ L.take k)
theorem distB_no {ls L : List Int} (k : Nat) (hk : k < L.length) (h : ¬ (L[k] ∈ ls ∧ L[k] ∉ L.take k)) : distB ls L = false := decide_eq_false fun e => h (e k hk)
theorem distB_nodup {ls L : List Int} (h : distB ls L = true) : L.Nodup ∧ ∀ x ∈ L, x ∈ ls := by
 have h := of_decide_eq_true h
 refine ⟨nodup_of_fresh fun k hk => (h k hk).2, fun x hx => ?_⟩
 obtain ⟨k, hk, rfl⟩ := List.getElem_of_mem hx
 exact (h k hk).1
theorem fits_of {r : Rg} {xs : List Int} (h : ∀ x ∈ xs, 0 ≤ x ∧ x ≤ top r) : fits r xs := fun k hk => h _ (mem_of_get xs k hk)
theorem fits_mem {r : Rg} {xs : List Int} (h : fits r xs) : ∀ x ∈ xs, 0 ≤ x ∧ x ≤ top r := fun x hx => by
 obtain ⟨k, hk, rfl⟩ := List.getElem_of_mem hx
 have := h k hk
 rwa [getD_of hk] at this
theorem tenOk_of {r : Rg} {ls ds xs : List Int} (h1 : ringOk r = true) (h2 : (xs.length : Int) = prodI ds * width r) (h3 : fits r xs) : tensorOk r ls ds xs = decide (tsize ls ds ≠ -1) := by
 rw [tensorOk, h1, show fitsB r xs = true from decide_eq_true h3, Bool.true_and, Bool.and_true]
 rcases tsize_cases ls ds with h | ⟨_, _, h, _⟩
 ·simp [h]
 ·rw [h]
  by_cases e : prodI ds = -1 <;> simp [e, h2]
theorem nodup_sub_len : ∀ {l M : List Int}, l.Nodup → (∀ x ∈ l, x ∈ M) → l.length ≤ M.length
 | [], _, _, _ => Nat.zero_le _
 | x :: l, M, h, hs => by
  rw [List.nodup_cons] at h
  have hx := hs x (List.mem_cons_self ..)
  have h1 := nodup_sub_len (l := l) (M := M.erase x) h.2 fun y hy => (List.mem_erase_of_ne (fun e => h.1 (by rwa [← e]))).2 (hs y (List.mem_cons_of_mem _ hy))
  have h2 := List.length_erase_of_mem hx
  have h3 := List.length_pos_of_mem hx
  simp only [List.length_cons]
  omega
theorem nodup_len {l : List Int} (h : l.Nodup) (hb : ∀ x ∈ l, 0 ≤ x ∧ x ≤ 99) : l.length ≤ 100 := by
 have h1 := nodup_sub_len (M := (List.range 100).map fun (i : Nat) => (i : Int)) h fun x hx => by
  have := hb x hx
  exact List.mem_map.2 ⟨x.toNat, by simp; omega, by omega⟩
 simpa using h1
theorem joinL_nodup {a b : List Int} (ha : a.Nodup) (hb : b.Nodup) : (joinL a b).Nodup := by
 unfold joinL
 refine List.nodup_append.2 ⟨ha, hb.filter _, fun x hx y hy e => ?_⟩
 subst e
 simp only [List.mem_filter, Bool.not_eq_true', has_false] at hy
 exact hy.2 hx
section
variable {L : List (List Int)} {x : Int} {k : Nat}
end
end Go.Proofs.Ytndmbmmnbocmhaa
