/-
 Contracts: drawn data as plain functions of the cursor: bytes, numbers, lists shuffled, labels. No condition.
-/
import Derived.Test.YtmkdphmjgfbjaaaGenA
set_option linter.unusedSimpArgs false
set_option linter.unusedVariables false
namespace Go.Proofs.Ytmkdphmjgfbjaaa
open Go.RowKit Go.Lift Plain
set_option maxRecDepth 100000
structure Cur where
 i : Nat
 h : Int
def curS (b : List Int) (c : Cur) : Option Root := curR b c.i c.h
def gByte (b : List Int) (c : Cur) : Int × Cur := if c.i < b.length then (a255 (gX (gH c.h) + b.getD c.i 0), ⟨c.i + 1, gH c.h⟩) else (gX (gH c.h), ⟨c.i, gH c.h⟩)
def gBelow (b : List Int) (n : Int) (c : Cur) : Int × Cur := ((gByte b c).1 % n, (gByte b c).2)
def gOnce (b : List Int) (n : Int) (c : Cur) : Bool × Cur := ((gBelow b n c).1 == 0, (gBelow b n c).2)
theorem gByte_bd {b : List Int} (c : Cur) : 0 ≤ (gByte b c).1 ∧ (gByte b c).1 ≤ 255 := by
 unfold gByte
 split
 ·exact a255_bd _
 ·exact a255_bd _
theorem gByte_ok {b : List Int} {c : Cur} (h : c.i ≤ b.length) : (gByte b c).2.i ≤ b.length := by
 unfold gByte
 split
 ·rename_i h; exact h
 ·exact h
theorem gBelow_bd {b : List Int} {n : Int} (hn : 1 ≤ n) (c : Cur) : 0 ≤ (gBelow b n c).1 ∧ (gBelow b n c).1 < n := ⟨Int.emod_nonneg _ (by omega), Int.emod_lt_of_pos _ (by omega)⟩
theorem gBelow_ok {b : List Int} {n : Int} {c : Cur} (h : c.i ≤ b.length) : (gBelow b n c).2.i ≤ b.length := gByte_ok h
theorem gOnce_ok {b : List Int} {n : Int} {c : Cur} (h : c.i ≤ b.length) : (gOnce b n c).2.i ≤ b.length := gByte_ok h
theorem gByte_d {b : List Int} (hb : CodeOk b) {c : Cur} (hi : c.i ≤ b.length) : Does Try.prog 29 [.ptr 0 0] [curS b c] (.d (.int (gByte b c).1)) [curS b (gByte b c).2] := by
 obtain ⟨i, h⟩ := c
 simp only at hi
 have hl := hb.len
 have g1 : IntKind.i64.wrap (IntKind.i64.wrap (h * 6364136223846793005) + 1442695040888963407) = gH h := rfl
 have g2 : IntKind.i64.wrap ((BitVec.ofInt 64 (IntKind.i64.wrap ((BitVec.ofInt 64 ((gH h).fdiv (2 ^ (min 33 64))) ^^^ BitVec.ofInt 64 ((gH h).fdiv (2 ^ (min 45 64)))).toNat : Int)) &&& 255#64).toNat : Int) = gX (gH h) := rfl
 have g3 := a255_bd (IntKind.i64.wrap ((BitVec.ofInt 64 ((gH h).fdiv (2 ^ (min 33 64))) ^^^ BitVec.ofInt 64 ((gH h).fdiv (2 ^ (min 45 64)))).toNat : Int))
 change 0 ≤ gX (gH h) ∧ gX (gH h) ≤ 255 at g3
 by_cases hlt : i < b.length
 ·have d1 : (i : Int) < b.length := by omega
  have g : b[i]? = some b[i] := List.getElem?_eq_getElem hlt
  have hw := hb.wf b[i] (List.getElem_mem _)
  have g4 : IntKind.i64.wrap ((BitVec.ofInt 64 (gX (gH h) + b[i]) &&& 255#64).toNat : Int) = a255 (gX (gH h) + b[i]) := rfl
  have g5 : (i : Int) + 1 = ((i + 1 : Nat) : Int) := by omega
  have e : gByte b ⟨i, h⟩ = (a255 (gX (gH h) + b[i]), ⟨i + 1, gH h⟩) := by unfold gByte; rw [if_pos hlt, getD_of hlt]
  rw [e]
  (refine spec_of (by kernel_rfl) Try.func29 k_spec_l01Byte (fnOk (nb rfl) ?_); unfold C_spec_l01Byte)
  unfold curS curR curC bytes
  (simp only [Nat.reduceSub, List.length_cons, List.length_nil, Nat.reduceAdd, ch_init1, ch_init2, ch_init3, ch_init4, ch_init5, ch_init6, ch_init7, ch_init8]; try simp only [ch_rep]); (simp only [go_sem, seval, reduceCtorEq, List.replicate])
  simp (disch := omega) only [go_sem, seval, reduceCtorEq, g1, g2, d1, g, g4, g5, Option.map_some]
  (refine FnEnd.mk (nb rfl) rfl (of_decide_eq_true rfl) ?_ ?_ <;> try simp only [go_sem, seval, reduceCtorEq])
 ·have d1 : ¬ (i : Int) < b.length := by omega
  have e : gByte b ⟨i, h⟩ = (gX (gH h), ⟨i, gH h⟩) := by unfold gByte; rw [if_neg hlt]
  rw [e]
  (refine spec_of (by kernel_rfl) Try.func29 k_spec_l01Byte (fnOk (nb rfl) ?_); unfold C_spec_l01Byte)
  unfold curS curR curC bytes
  (simp only [Nat.reduceSub, List.length_cons, List.length_nil, Nat.reduceAdd, ch_init1, ch_init2, ch_init3, ch_init4, ch_init5, ch_init6, ch_init7, ch_init8]; try simp only [ch_rep]); (simp only [go_sem, seval, reduceCtorEq, List.replicate])
  simp (disch := omega) only [go_sem, seval, reduceCtorEq, g1, g2, d1]
  (refine FnEnd.mk (nb rfl) rfl (of_decide_eq_true rfl) ?_ ?_ <;> try simp only [go_sem, seval, reduceCtorEq])
theorem gBelow_d {b : List Int} (hb : CodeOk b) {c : Cur} (hi : c.i ≤ b.length) {n : Int} (hn : 1 ≤ n ∧ n ≤ 1048576) : Does Try.prog 22 [.ptr 0 0, .d (.int n)] [curS b c] (.d (.int (gBelow b n c).1)) [curS b (gBelow b n c).2] := by
 have hd := gByte_d hb hi
 have hx := gByte_bd (b := b) c
 have e := Int.tmod_eq_emod_of_nonneg hx.1 (b := n)
 have d0 : ¬ n ≤ 0 := by omega
 have d1 : n ≠ 0 := by omega
 (refine spec_of (by kernel_rfl) Try.func22 k_spec_l01Below (fnOk (nb rfl) ?_); unfold C_spec_l01Below)
 unfold gBelow
 unfold curS curR curC at hd ⊢
 (simp only [Nat.reduceSub, List.length_cons, List.length_nil, Nat.reduceAdd, ch_init1, ch_init2, ch_init3, ch_init4, ch_init5, ch_init6, ch_init7, ch_init8]; try simp only [ch_rep]); (simp only [go_sem, seval, reduceCtorEq, List.replicate])
 simp only [go_sem, seval, reduceCtorEq, d0]
 (refine ti_callcg [0] [] false (of_decide_eq_true rfl) ?_ _ ?_ (hd) ?_ ?_; (focus (simp only [go_sem, seval, reduceCtorEq]; done)); (focus (simp only [go_sem, seval, reduceCtorEq]; done)); (focus (first | rfl | (simp only [go_sem, seval, reduceCtorEq]; done))))
 simp only [go_sem, seval, reduceCtorEq, e, d1]
 (repeat (refine And.intro (by omega) ?_))
 (refine FnEnd.mk (nb rfl) rfl (of_decide_eq_true rfl) ?_ ?_ <;> try simp only [go_sem, seval, reduceCtorEq])
theorem gOnce_d {b : List Int} (hb : CodeOk b) {c : Cur} (hi : c.i ≤ b.length) {n : Int} (hn : 1 ≤ n ∧ n ≤ 1048576) : Does Try.prog 28 [.ptr 0 0, .d (.int n)] [curS b c] (.d (.bool (gOnce b n c).1)) [curS b (gOnce b n c).2] := by
 have hd := gBelow_d hb hi hn
 (refine spec_of (by kernel_rfl) Try.func28 k_spec_l01Once (fnOk (nb rfl) ?_); unfold C_spec_l01Once)
 unfold gOnce
 unfold curS curR curC at hd ⊢
 (simp only [Nat.reduceSub, List.length_cons, List.length_nil, Nat.reduceAdd, ch_init1, ch_init2, ch_init3, ch_init4, ch_init5, ch_init6, ch_init7, ch_init8]; try simp only [ch_rep]); (simp only [go_sem, seval, reduceCtorEq, List.replicate])
 (refine ti_callcg [0] [] false (of_decide_eq_true rfl) ?_ _ ?_ (hd) ?_ ?_; (focus (simp only [go_sem, seval, reduceCtorEq]; done)); (focus (simp only [go_sem, seval, reduceCtorEq]; done)); (focus (first | rfl | (simp only [go_sem, seval, reduceCtorEq]; done))))
 simp only [go_sem, seval, reduceCtorEq]
 (refine FnEnd.mk (nb rfl) rfl (of_decide_eq_true rfl) ?_ ?_ <;> try simp only [go_sem, seval, reduceCtorEq])
def swp (xs : List Int) (i k : Nat) : List Int := (xs.set i (xs.getD k 0)).set k (xs.getD i 0)
def gShuf (b : List Int) (c : Cur) (xs : List Int) : Nat → Cur × List Int
 | 0 => (c, xs)
 | i + 1 => ((gBelow b (i + 1 : Nat) (gShuf b c xs i).1).2, swp (gShuf b c xs i).2 i (gBelow b (i + 1 : Nat) (gShuf b c xs i).1).1.toNat)
theorem swp_len (xs : List Int) (i k : Nat) : (swp xs i k).length = xs.length := by simp [swp]
theorem gShuf_len (b : List Int) (c : Cur) (xs : List Int) : ∀ i, (gShuf b c xs i).2.length = xs.length
 | 0 => rfl
 | i + 1 => by show (swp _ _ _).length = _; rw [swp_len, gShuf_len b c xs i]
theorem gShuf_ok {b : List Int} {c : Cur} (h : c.i ≤ b.length) (xs : List Int) : ∀ i, (gShuf b c xs i).1.i ≤ b.length
 | 0 => h
 | i + 1 => gBelow_ok (n := ((i + 1 : Nat) : Int)) (gShuf_ok h xs i)
theorem swp_perm {xs : List Int} {i k : Nat} (hi : i < xs.length) (hk : k < xs.length) : (swp xs i k).Perm xs := by
 unfold swp
 rw [getD_of hi, getD_of hk]
 exact List.set_set_perm hi hk
theorem gShuf_perm {b : List Int} (c : Cur) (xs : List Int) : ∀ i, i ≤ xs.length → (gShuf b c xs i).2.Perm xs
 | 0, _ => List.Perm.refl _
 | i + 1, h => by
  have hl := gShuf_len b c xs i
  have hb := gBelow_bd (b := b) (n := ((i + 1 : Nat) : Int)) (by omega) (gShuf b c xs i).1
  exact (swp_perm (by omega) (by omega)).trans (gShuf_perm c xs i (by omega))
theorem l06Shuffle_d {b : List Int} (hb : CodeOk b) {c : Cur} (hi : c.i ≤ b.length) {xs : List Int} (hn : xs.length ≤ 1048576) :
  Does Try.prog 26 [.ptr 0 0, .own 1 0 xs.length] [curS b c, some ⟨1, false, iv xs⟩] (.own 2 0 xs.length) [curS b (gShuf b c xs xs.length).1, some ⟨1, false, iv xs⟩, some ⟨1, true, iv (gShuf b c xs xs.length).2⟩] := by
 (refine spec_of (by kernel_rfl) Try.func26 k_spec_l06Shuffle (fnOk (nb rfl) ?_); unfold C_spec_l06Shuffle)
 unfold curS curR curC
 (simp only [Nat.reduceSub, List.length_cons, List.length_nil, Nat.reduceAdd, ch_init1, ch_init2, ch_init3, ch_init4, ch_init5, ch_init6, ch_init7, ch_init8]; try simp only [ch_rep]); (simp only [go_sem, seval, reduceCtorEq, List.replicate])
 (refine ti_call (l05Ints_d (xs := xs) (by omega)) ?_ ?_ ?_; (focus (simp only [go_sem, seval, reduceCtorEq]; done)); (first | rfl | (focus (simp only [go_sem]; done))))
 simp only [go_sem, seval, reduceCtorEq]
 have e0 : (gShuf b c xs 0).1 = c := rfl
 have e1 : (gShuf b c xs 0).2 = xs := rfl
 refine wpN_lp (xs.length) (mkB 37 68719460800) (fun k => [(13, .d (.int k))]) (fun k => [(0, curC b (gShuf b c xs k).1.i (gShuf b c xs k).1.h), (2, iv (gShuf b c xs k).2)]) (h1 := by first | (simp only [go_sem, seval, reduceCtorEq, nz, na, n1, e0, e1, curC]; first | done | rfl) | rfl) (h2 := by first | (simp only [go_sem, seval, reduceCtorEq, nz, na, n1, e0, e1, curC]; first | done | rfl) | rfl) (hr := fun k hk => ?_)
 unfold L0_spec_l06Shuffle
 by_cases hlt : k < xs.length
 ·have d1 : (k : Int) < xs.length := by omega
  have hs : gShuf b c xs (k + 1) = ((gBelow b (k + 1 : Nat) (gShuf b c xs k).1).2, swp (gShuf b c xs k).2 k (gBelow b (k + 1 : Nat) (gShuf b c xs k).1).1.toNat) := rfl
  have hl := gShuf_len b c xs k
  have hck := gShuf_ok hi xs k
  generalize gShuf b c xs k = S at hs hl hck
  obtain ⟨c1, L⟩ := S
  simp only at hl hck hs
  have hr := gBelow_bd (b := b) (n := ((k + 1 : Nat) : Int)) (by omega) c1
  have hd := gBelow_d hb hck (n := ((k + 1 : Nat) : Int)) (by omega)
  generalize gBelow b ((k + 1 : Nat) : Int) c1 = T at hr hd hs
  obtain ⟨r, c2⟩ := T
  simp only at hr hd hs
  obtain ⟨q, rfl⟩ := Int.eq_ofNat_of_zero_le hr.1
  have hq : q < L.length := by omega
  have hk : k < L.length := by omega
  have g1 : L[k]? = some L[k] := List.getElem?_eq_getElem hk
  have g2 : L[q]? = some L[q] := List.getElem?_eq_getElem hq
  have d2 : (k : Int) + 1 = ((k + 1 : Nat) : Int) := by omega
  have d3 : (q : Int) < L.length := by omega
  have hsw : swp L k q = (L.set k L[q]).set q L[k] := by unfold swp; rw [getD_of hk, getD_of hq]
  have p1 := put_set (xs := L) (x := L[q]) hk
  have p2 := put_set (xs := L.set k L[q]) (x := L[k]) (n := q) (by rw [List.length_set]; exact hq)
  have e1 : (gShuf b c xs (k + 1)).1 = c2 := by rw [hs]
  have e2 : (gShuf b c xs (k + 1)).2 = (L.set k L[q]).set q L[k] := by rw [hs]; simp only [Int.toNat_natCast, hsw]
  unfold curS curR curC at hd
  simp (disch := omega) only [go_sem, seval, reduceCtorEq, d1, curC, d2]
  (refine ti_callcg [0] [] false (of_decide_eq_true rfl) ?_ _ ?_ (hd) ?_ ?_; (focus (simp only [go_sem, seval, reduceCtorEq]; done)); (focus (simp only [go_sem, seval, reduceCtorEq]; done)); (focus (first | rfl | (simp only [go_sem, seval, reduceCtorEq]; done))))
  simp (disch := omega) only [go_sem, seval, reduceCtorEq, g1, g2, Option.map_some, p1, p2, List.length_set, hl]
  (repeat (refine And.intro (by omega) ?_))
  (refine Next.drop (mkB 37 68719460800) (by omega) (h1 := ?_) (h2 := ?_) <;> first | (simp only [go_sem, seval, reduceCtorEq, nz, na, n1, e1, e2, curC]; first | done | rfl) | rfl | skip)
 ·have d1 : ¬ (k : Int) < xs.length := by omega
  have hk : k = xs.length := by omega
  subst hk
  simp (disch := omega) only [go_sem, seval, reduceCtorEq, d1, curC]
  (refine FnEnd.mk (nb rfl) rfl (of_decide_eq_true rfl) ?_ ?_ <;> try simp only [go_sem, seval, reduceCtorEq])
def gLab (b : List Int) (n : Int) (c : Cur) : Nat → Cur × List Int
 | 0 => (c, [])
 | k + 1 => ((gBelow b n (gLab b n c k).1).2, if (gBelow b n (gLab b n c k).1).1 ∈ (gLab b n c k).2 then (gLab b n c k).2 else (gLab b n c k).2 ++ [(gBelow b n (gLab b n c k).1).1])
def dimL (x : Int) : Int := 1 + (x + 1) % 3
def dimsL (ls : List Int) : List Int := ls.map dimL
theorem dimsL_len (ls : List Int) : (dimsL ls).length = ls.length := by simp [dimsL]
theorem gLab_ok {b : List Int} {n : Int} {c : Cur} (h : c.i ≤ b.length) : ∀ k, (gLab b n c k).1.i ≤ b.length
 | 0 => h
 | k + 1 => gBelow_ok (n := n) (gLab_ok h k)
theorem gLab_in {b : List Int} {n : Int} (hn : 1 ≤ n) (c : Cur) : ∀ k, ∀ x ∈ (gLab b n c k).2, 0 ≤ x ∧ x < n
 | 0, x, h => by simp [gLab] at h
 | k + 1, x, h => by
  simp only [gLab] at h
  split at h
  ·exact gLab_in hn c k x h
  ·rcases List.mem_append.1 h with h | h
   ·exact gLab_in hn c k x h
   ·rw [List.mem_singleton.1 h]
    exact gBelow_bd hn _
theorem gLab_nodup (b : List Int) (n : Int) (c : Cur) : ∀ k, (gLab b n c k).2.Nodup
 | 0 => by simp [gLab]
 | k + 1 => by
  simp only [gLab]
  split
  ·exact gLab_nodup b n c k
  ·rename_i h
   exact List.nodup_append.2 ⟨gLab_nodup b n c k, by simp, fun x hx y hy e => h (by rw [← List.mem_singleton.1 hy, ← e]; exact hx)⟩
theorem gLab_len (b : List Int) (n : Int) (c : Cur) : ∀ k, (gLab b n c k).2.length ≤ k
 | 0 => by simp [gLab]
 | k + 1 => by
  have := gLab_len b n c k
  simp only [gLab]
  split
  ·omega
  ·simp; omega
def gLabs (b : List Int) (c : Cur) : Cur × List Int := gLab b 6 (gBelow b 4 c).2 (gBelow b 4 c).1.toNat
theorem l05Labels_d {b : List Int} (hb : CodeOk b) {c : Cur} (hi : c.i ≤ b.length) :
  Does Try.prog 37 [.ptr 0 0, .d (.int 6), .d (.int 3)] [curS b c] (.tup [.own 1 0 (gLabs b c).2.length, .own 2 0 (gLabs b c).2.length])
   [curS b (gLabs b c).1, some ⟨1, true, iv (gLabs b c).2⟩, some ⟨1, true, iv (dimsL (gLabs b c).2)⟩] := by
 have h0 := gBelow_d hb hi (n := 4) (by omega)
 have hr0 := gBelow_bd (b := b) (n := 4) (by omega) c
 have hc0 := gBelow_ok (n := 4) hi
 (refine spec_of (by kernel_rfl) Try.func37 k_spec_l05Labels (fnOk (nb rfl) ?_); unfold C_spec_l05Labels)
 unfold gLabs
 generalize gBelow b 4 c = T0 at h0 hr0 hc0
 obtain ⟨m0, c0⟩ := T0
 simp only at h0 hr0 hc0
 obtain ⟨m, rfl⟩ := Int.eq_ofNat_of_zero_le hr0.1
 simp only [Int.toNat_natCast]
 unfold curS curR curC at h0 ⊢
 (simp only [Nat.reduceSub, List.length_cons, List.length_nil, Nat.reduceAdd, ch_init1, ch_init2, ch_init3, ch_init4, ch_init5, ch_init6, ch_init7, ch_init8]; try simp only [ch_rep]); (simp only [go_sem, seval, reduceCtorEq, List.replicate])
 (refine ti_callcg [0] [] false (of_decide_eq_true rfl) ?_ _ ?_ (h0) ?_ ?_; (focus (simp only [go_sem, seval, reduceCtorEq]; done)); (focus (simp only [go_sem, seval, reduceCtorEq]; done)); (focus (first | rfl | (simp only [go_sem, seval, reduceCtorEq]; done))))
 simp (disch := omega) only [go_sem, seval, reduceCtorEq]
 have e0 : gLab b 6 c0 0 = (c0, []) := rfl
 refine wpN_lp (m) (mkB 42 1099511379968) (fun k => [(8, .own 1 0 (gLab b 6 c0 k).2.length), (9, .own 2 0 (gLab b 6 c0 k).2.length), (10, .d (.int ((m : Int) - k)))]) (fun k => [(0, curC b (gLab b 6 c0 k).1.i (gLab b 6 c0 k).1.h), (1, iv (gLab b 6 c0 k).2), (2, iv (dimsL (gLab b 6 c0 k).2))]) (h1 := by first | (simp only [go_sem, seval, reduceCtorEq, nz, na, n1, e0, curC, iv_nil, dimsL]; first | done | rfl) | rfl) (h2 := by first | (simp only [go_sem, seval, reduceCtorEq, nz, na, n1, e0, curC, iv_nil, dimsL]; first | done | rfl) | rfl) (hr := fun k hk => ?_)
 unfold L0_spec_l05Labels
 by_cases hlt : k < m
 ·have d1 : (m : Int) - k > 0 := by omega
  have hs : gLab b 6 c0 (k + 1) = ((gBelow b 6 (gLab b 6 c0 k).1).2, if (gBelow b 6 (gLab b 6 c0 k).1).1 ∈ (gLab b 6 c0 k).2 then (gLab b 6 c0 k).2 else (gLab b 6 c0 k).2 ++ [(gBelow b 6 (gLab b 6 c0 k).1).1]) := rfl
  have hl := gLab_len b 6 c0 k
  have hck := gLab_ok (n := 6) hc0 k
  generalize gLab b 6 c0 k = S at hs hl hck
  obtain ⟨c1, L⟩ := S
  simp only at hl hck hs
  have hr := gBelow_bd (b := b) (n := 6) (by omega) c1
  have hd := gBelow_d hb hck (n := 6) (by omega)
  generalize gBelow b 6 c1 = T at hr hd hs
  obtain ⟨x, c2⟩ := T
  simp only at hr hd hs
  have e1 : (gLab b 6 c0 (k + 1)).1 = c2 := by rw [hs]
  have d5 : (m : Int) - k - 1 = (m : Int) - ((k + 1 : Nat) : Int) := by omega
  unfold curS curR curC at hd
  simp (disch := omega) only [go_sem, seval, reduceCtorEq, d1, curC, dimsL]
  (refine ti_callcg [0] [] false (of_decide_eq_true rfl) ?_ _ ?_ (hd) ?_ ?_; (focus (simp only [go_sem, seval, reduceCtorEq]; done)); (focus (simp only [go_sem, seval, reduceCtorEq]; done)); (focus (first | rfl | (simp only [go_sem, seval, reduceCtorEq]; done))))
  simp (disch := omega) only [go_sem, seval, reduceCtorEq]
  (refine ti_call (l05Find_d (xs := L) (x := x) (by omega)) ?_ ?_ ?_; (focus (simp only [go_sem, seval, reduceCtorEq]; done)); (first | rfl | (focus (simp only [go_sem]; done))))
  simp (disch := omega) only [go_sem, seval, reduceCtorEq]
  by_cases hm : x ∈ L
  ·have d2 : ¬ place L x < 0 := fun h => place_neg.1 h hm
   have e2 : (gLab b 6 c0 (k + 1)).2 = L := by rw [hs]; exact if_pos hm
   simp (disch := omega) only [go_sem, seval, reduceCtorEq, d2, d5]
   (refine Next.drop (mkB 42 1099511379968) (by omega) (h1 := ?_) (h2 := ?_) <;> first | (simp only [go_sem, seval, reduceCtorEq, nz, na, n1, e1, e2, curC, dimsL]; first | done | rfl) | rfl | skip)
  ·have d2 : place L x < 0 := place_neg.2 hm
   have e2 : (gLab b 6 c0 (k + 1)).2 = L ++ [x] := by rw [hs]; exact if_neg hm
   have e3 : List.map dimL (L ++ [x]) = L.map dimL ++ [1 + (x + 1) % 3] := by simp [dimL]
   have e4 := Int.tmod_eq_emod_of_nonneg (a := x + 1) (b := 3) (by omega)
   simp (disch := omega) only [go_sem, seval, reduceCtorEq, d2, d5, e4]
   have el : (L ++ [x]).length = L.length + 1 := by simp
   (repeat (refine And.intro (by omega) ?_))
   (refine Next.drop (mkB 42 1099511379968) (by omega) (h1 := ?_) (h2 := ?_) <;> first | (simp only [go_sem, seval, reduceCtorEq, nz, na, n1, e1, e2, e3, el, curC, dimsL]; first | done | rfl) | rfl | skip)
 ·have d1 : ¬ (m : Int) - k > 0 := by omega
  have hk : k = m := by omega
  subst hk
  simp (disch := omega) only [go_sem, seval, reduceCtorEq, d1, curC, dimsL]
  (refine FnEnd.mk (nb rfl) rfl (of_decide_eq_true rfl) ?_ ?_ <;> try simp only [go_sem, seval, reduceCtorEq])
end Go.Proofs.Ytmkdphmjgfbjaaa
