/-
 Plain: what is drawn fits its ring; a drawn tensor's axes are right. No condition.
-/
import Derived.Test.YtndmbmmnbocmhaaGenB
import Derived.Test.YtndmbmmnbocmhaaConS
set_option linter.unusedSimpArgs false
set_option linter.unusedVariables false
namespace Go.Proofs.Ytndmbmmnbocmhaa
open Go.RowKit Go.Lift Plain
set_option maxRecDepth 100000
theorem oneE_fits {r : Rg} {wd : Nat} (hr : ringOk r = true) : fits r (oneE r wd) := fits_of fun x hx => by
 have ht := top_bd hr
 unfold oneE at hx
 rcases List.mem_or_eq_of_mem_set hx with h | h
 ·have := (List.mem_replicate.1 h).2; omega
 ·subst h; split
  ·omega
  ·split <;> omega
theorem gEl_fits {b : List Int} {T : Int} (hT : 1 ≤ T) (wd : Nat) (c : Cur) : ∀ k, ∀ x ∈ (gEl b T wd c k).2, 0 ≤ x ∧ x ≤ T
 | 0, x, h => by
  have := (List.mem_replicate.1 h).2
  omega
 | k + 1, x, h => by
  have hb := gBelow_bd (b := b) (n := min 256 (T + 1)) (by omega) (gEl b T wd c k).1
  rcases List.mem_or_eq_of_mem_set h with h | h
  ·exact gEl_fits hT wd c k x h
  ·subst h
   split <;> omega
theorem gDraw_fits {b : List Int} {r : Rg} {wd : Nat} {c : Cur} (hr : ringOk r = true) : fits r (gDraw b r wd c).2 := by
 have ht := top_bd hr
 unfold gDraw
 split
 ·exact zeroE_fits hr
 ·split
  ·exact oneE_fits hr
  ·exact fits_of fun x hx => gEl_fits (by omega) _ _ _ x hx
theorem gLabs_ax (b : List Int) (c : Cur) : axOk (gLabs b c).2 (dimsL (gLabs b c).2) ∧ (gLabs b c).2.length ≤ 3 ∧ ∀ d ∈ dimsL (gLabs b c).2, 1 ≤ d ∧ d ≤ 3 := by
 have hm := gBelow_bd (b := b) (n := 4) (by omega) c
 have hl := gLab_len b 6 (gBelow b 4 c).2 (gBelow b 4 c).1.toNat
 have hi := gLab_in (b := b) (n := 6) (by omega) (gBelow b 4 c).2 (gBelow b 4 c).1.toNat
 have hn := gLab_nodup b 6 (gBelow b 4 c).2 (gBelow b 4 c).1.toNat
 have hd : ∀ d ∈ dimsL (gLabs b c).2, 1 ≤ d ∧ d ≤ 3 := fun d hd => by
  obtain ⟨x, hx, rfl⟩ := List.mem_map.1 hd
  unfold dimL
  omega
 unfold gLabs at hd ⊢
 refine ⟨axOk_mk (by omega) (dimsL_len _).symm hn (fun l hl => by have := hi l hl; omega) (fun d h => by have := hd d h; omega), by omega, hd⟩
set_option maxRecDepth 100000
structure Nat6 (t : Ten) : Prop where
 dims : t.dims = dimsL t.labels
 nd : t.labels.Nodup
 bd : ∀ x ∈ t.labels, 0 ≤ x ∧ x < 6
 len : t.labels.length ≤ 3
theorem dimL_bd {x : Int} : 1 ≤ dimL x ∧ dimL x ≤ 3 := by unfold dimL; omega
theorem Nat6.ax {t : Ten} (h : Nat6 t) : axOk t.labels t.dims := by
 rw [h.dims]
 refine axOk_mk (by have := h.len; omega) (dimsL_len _).symm h.nd (fun l hl => by have := h.bd l hl; omega) fun d hd => ?_
 obtain ⟨x, hx, rfl⟩ := List.mem_map.1 hd
 have := dimL_bd (x := x)
 omega
theorem Nat6.dim {t : Ten} (h : Nat6 t) {x : Int} (hx : x ∈ t.labels) : dimAt t x = dimL x := by
 obtain ⟨k, hk, rfl⟩ := List.getElem_of_mem hx
 have hl : k < t.dims.length := by rw [h.dims, dimsL_len]; exact hk
 rw [dimAt_at h.ax hk hl]
 simp [h.dims, dimsL]
theorem dimN_6 : ∀ {ts : List Ten}, (∀ t ∈ ts, Nat6 t) → ∀ x, dimN ts x = 0 ∨ dimN ts x = dimL x
 | [], _, x => .inl rfl
 | t :: l, h, x => by
  rw [dimN]
  split
  ·rename_i hx; exact .inr ((h t (by simp)).dim hx)
  ·exact dimN_6 (fun t' ht => h t' (by simp [ht])) x
theorem dimN_6in : ∀ {ts : List Ten}, (∀ t ∈ ts, Nat6 t) → ∀ {x t}, t ∈ ts → x ∈ t.labels → dimN ts x = dimL x
 | t :: l, h, x, u, hu, hx => by
  rw [dimN]
  split
  ·rename_i hx; exact (h t (by simp)).dim hx
  ·rename_i hn
   rcases List.mem_cons.1 hu with rfl | hu
   ·exact absurd hx hn
   ·exact dimN_6in (fun t' ht => h t' (by simp [ht])) hu hx
theorem cons_6 {ts : List Ten} (h : ∀ t ∈ ts, Nat6 t) : consB ts := fun k hk x hk' hx => by
 rcases dimN_6 (ts := ts.take k) (fun t ht => h t (List.mem_of_mem_take ht)) x with h1 | h1
 ·exact .inl h1
 ·exact .inr (h1.trans ((h _ (List.getElem_mem hk)).dim hx).symm)
theorem prodL_le : ∀ (ls : List Int) , 1 ≤ prodI (dimsL ls) ∧ prodI (dimsL ls) ≤ 3 ^ ls.length
 | [] => by decide
 | x :: l => by
  obtain ⟨h1, h2⟩ := prodL_le l
  have hd := dimL_bd (x := x)
  have e : prodI (dimsL (x :: l)) = dimL x * prodI (dimsL l) := by rw [dimsL, List.map_cons, prodI_cons]; rfl
  rw [e, List.length_cons, Int.pow_succ]
  have a1 : 1 * 1 ≤ dimL x * prodI (dimsL l) := Int.mul_le_mul hd.1 h1 (by omega) (by omega)
  have a2 : dimL x * prodI (dimsL l) ≤ 3 * 3 ^ l.length := Int.mul_le_mul hd.2 h2 (by omega) (by omega)
  omega
theorem prod6 {ls : List Int} (h : ls.length ≤ 6) : prodI (dimsL ls) ≤ 729 := by
 have h1 := (prodL_le ls).2
 have h2 : ((3 : Int) ^ ls.length) ≤ 3 ^ 6 := by
  have : (3 : Nat) ^ ls.length ≤ 3 ^ 6 := Nat.pow_le_pow_right (by omega) h
  exact_mod_cast this
 omega
theorem Nat6.prod {t : Ten} (h : Nat6 t) : 1 ≤ prodI t.dims ∧ prodI t.dims ≤ 729 := by
 rw [h.dims]
 exact ⟨(prodL_le _).1, prod6 (by have := h.len; omega)⟩
theorem Nat6.ok {r : Rg} {t : Ten} (h : Nat6 t) (hr : ringOk r = true) (hl : (t.data.length : Int) = prodI t.dims * width r) (hf : fits r t.data) : tensorOk r t.labels t.dims t.data = true := by
 rw [tenOk_of hr hl hf]
 have hp := h.prod
 have e : tsize t.labels t.dims = prodI t.dims := if_pos ⟨h.ax, by omega⟩
 rw [e]
 exact decide_eq_true (by omega)
theorem len6 {l : List Int} (hn : l.Nodup) (hb : ∀ x ∈ l, 0 ≤ x ∧ x < 6) : l.length ≤ 6 := by
 have hs : ∀ x ∈ l, x ∈ [0, 1, 2, 3, 4, (5 : Int)] := fun x hx => by
  have := hb x hx
  simp only [List.mem_cons, List.not_mem_nil, or_false]
  omega
 exact nodup_len_le hn hs
theorem net6_ok {N : Net} (hr : ringOk N.rg = true) (hlen : N.ts.length ≤ 12) (ht : ∀ t ∈ N.ts, Nat6 t ∧ tensorOk N.rg t.labels t.dims t.data = true) (hn : N.os.Nodup) (ho : ∀ x ∈ N.os, ∃ t ∈ N.ts, x ∈ t.labels) : netOk N = true := by
 have h6 : ∀ t ∈ N.ts, Nat6 t := fun t h => (ht t h).1
 have hb : ∀ x ∈ N.os, 0 ≤ x ∧ x < 6 := fun x hx => by
  obtain ⟨t, h1, h2⟩ := ho x hx
  exact (h6 t h1).bd x h2
 have e : N.os.map (dimN N.ts) = dimsL N.os := List.map_congr_left fun x hx => by
  obtain ⟨t, h1, h2⟩ := ho x hx
  exact dimN_6in h6 h1 h2
 have hl := len6 hn hb
 refine netOk_iff.2 ⟨hr, hlen, fun t h => (ht t h).2, cons_6 h6, ?_⟩
 rw [e]
 have hax : axOk N.os (dimsL N.os) := axOk_mk (by omega) (dimsL_len _).symm hn (fun l hl => by have := hb l hl; omega) fun d hd => by
  obtain ⟨x, hx, rfl⟩ := List.mem_map.1 hd
  have := dimL_bd (x := x)
  omega
 have hp := prodL_le N.os
 have hp2 := prod6 hl
 have e2 : tsize N.os (dimsL N.os) = prodI (dimsL N.os) := if_pos ⟨hax, by omega⟩
 rw [e2]
 omega
set_option maxRecDepth 100000
attribute [go_sem] List.getElem?_nil
def gFill (b : List Int) (r : Rg) (wd n : Nat) (c : Cur) : Nat → Cur × List Int
 | 0 => (c, repE (zeroE r.k r.p wd) n)
 | k + 1 => ((gDraw b r wd (gFill b r wd n c k).1).1, putE (gFill b r wd n c k).2 (k * wd) (gDraw b r wd (gFill b r wd n c k).1).2)
theorem gFill_ok {b : List Int} {r : Rg} {wd n : Nat} {c : Cur} (h : c.i ≤ b.length) : ∀ k, (gFill b r wd n c k).1.i ≤ b.length
 | 0 => h
 | k + 1 => gDraw_ok (gFill_ok h k)
theorem gFill_len {b : List Int} {r : Rg} {wd n : Nat} {c : Cur} : ∀ k, k ≤ n → (gFill b r wd n c k).2.length = n * wd
 | 0, _ => by
  show (repE _ _).length = _
  rw [repE_len, zeroE_len]
 | k + 1, h => by
  have h1 := gFill_len (b := b) (r := r) (wd := wd) (n := n) (c := c) k (by omega)
  have hms : k * wd + wd ≤ n * wd := mul_step (by omega)
  show (putE _ _ _).length = _
  have h2 := gDraw_len (b := b) (r := r) (wd := wd) (c := (gFill b r wd n c k).1)
  rw [putE_len (by omega)]
  exact h1
set_option maxHeartbeats 1600000 in
theorem l05Fill_d {b : List Int} (hb : CodeOk b) {c : Cur} (hi : c.i ≤ b.length) {kk pp nn : Int} {wd n : Nat} {ls ds : List Int} (hr : ringOk ⟨kk, pp, nn⟩ = true) (hw : width ⟨kk, pp, nn⟩ = wd) (h1 : 1 ≤ wd ∧ wd ≤ 6)
  (hls : ls.length ≤ 1048576) (hds : ds.length ≤ 1048576) (hd : ∀ d ∈ ds, 1 ≤ d ∧ d ≤ 100) (hn : prodI ds = n) (hn2 : n ≤ 4096) :
  Does Try.prog 66 [.ptr 0 0, ringA kk pp nn, .own 1 0 ls.length, .own 2 0 ds.length] [curS b c, some ⟨1, false, iv ls⟩, some ⟨1, false, iv ds⟩]
   (.agg [.own 3 0 ls.length, .own 4 0 ds.length, .own 5 0 (n * wd)]) [curS b (gFill b ⟨kk, pp, nn⟩ wd n c n).1, some ⟨1, false, iv ls⟩, some ⟨1, false, iv ds⟩, some ⟨1, true, iv ls⟩, some ⟨1, true, iv ds⟩, some ⟨1, true, iv (gFill b ⟨kk, pp, nn⟩ wd n c n).2⟩] := by
 have hmn : min (prodI ds) 4097 = (n : Int) := by omega
 have hz := zeroE_len kk pp wd
 have hzl := repE_len (zeroE kk pp wd) n
 rw [hz] at hzl
 (refine spec_ofW _ (by kernel_rfl) Try.func66 k_spec_l05Fill (fnOk (nb rfl) ?_); unfold C_spec_l05Fill)
 unfold curS curR curC
 (simp only [Nat.reduceSub, List.length_cons, List.length_nil, Nat.reduceAdd, ch_init1, ch_init2, ch_init3, ch_init4, ch_init5, ch_init6, ch_init7, ch_init8]; try simp only [ch_rep]); (simp only [go_sem, seval, reduceCtorEq, List.replicate])
 (refine ti_call (l05Zero_d (ls := ls) (ds := ds) hw h1 hls hds hd hn hn2) ?_ ?_ ?_; (focus (simp only [go_sem, seval, reduceCtorEq]; done)); (first | rfl | (focus (simp only [go_sem]; done))))
 simp only [go_sem, seval, reduceCtorEq, hzl]
 have e0 : (gFill b ⟨kk, pp, nn⟩ wd n c 0).1 = c := rfl
 have e1 : (gFill b ⟨kk, pp, nn⟩ wd n c 0).2 = repE (zeroE kk pp wd) n := rfl
 refine wpN_lp (n) (mkB 29 268402688) (fun k => [(10, .d (.int k))]) (fun k => [(0, curC b (gFill b ⟨kk, pp, nn⟩ wd n c k).1.i (gFill b ⟨kk, pp, nn⟩ wd n c k).1.h), (7, iv (gFill b ⟨kk, pp, nn⟩ wd n c k).2)]) (h1 := by first | (simp only [go_sem, seval, reduceCtorEq, nz, na, n1, e0, e1, curC]; first | done | rfl) | rfl) (h2 := by first | (simp only [go_sem, seval, reduceCtorEq, nz, na, n1, e0, e1, curC]; first | done | rfl) | rfl) (hr := fun k hk => ?_)
 unfold L0_spec_l05Fill
 simp only [go_sem, seval, reduceCtorEq]
 (refine ti_call (l05Product_d (ds := ds) (lim := 4096) (by omega) hd (by omega)) ?_ ?_ ?_; (focus (simp only [go_sem, seval, reduceCtorEq, hmn]; done)); (first | rfl | (focus (simp only [go_sem]; done))))
 by_cases hlt : k < n
 ·have h2 : (k : Int) < n := by omega
  have hms := mul_step (wd := wd) hlt
  have hnw : n * wd ≤ 4096 * 6 := Nat.mul_le_mul (by omega) h1.2
  have hs : gFill b ⟨kk, pp, nn⟩ wd n c (k + 1) = ((gDraw b ⟨kk, pp, nn⟩ wd (gFill b ⟨kk, pp, nn⟩ wd n c k).1).1, putE (gFill b ⟨kk, pp, nn⟩ wd n c k).2 (k * wd) (gDraw b ⟨kk, pp, nn⟩ wd (gFill b ⟨kk, pp, nn⟩ wd n c k).1).2) := rfl
  have hfl := gFill_len (b := b) (r := ⟨kk, pp, nn⟩) (wd := wd) (n := n) (c := c) k (by omega)
  have hck := gFill_ok (r := ⟨kk, pp, nn⟩) (wd := wd) (n := n) hi k
  generalize gFill b ⟨kk, pp, nn⟩ wd n c k = S at hs hfl hck
  obtain ⟨c1, L⟩ := S
  simp only at hfl hck hs
  have hdr := l02Draw_d hb hck hr hw h1
  have hdl := gDraw_len (b := b) (r := ⟨kk, pp, nn⟩) (wd := wd) (c := c1)
  generalize gDraw b ⟨kk, pp, nn⟩ wd c1 = T at hdr hdl hs
  obtain ⟨c2, Y⟩ := T
  simp only at hdr hdl hs
  have e1 : (gFill b ⟨kk, pp, nn⟩ wd n c (k + 1)).1 = c2 := by rw [hs]
  have e2 : (gFill b ⟨kk, pp, nn⟩ wd n c (k + 1)).2 = putE L (k * wd) Y := by rw [hs]
  have hpl := putE_len (xs := L) (off := k * wd) (ys := Y) (by omega)
  have hyt : List.take wd Y = Y := List.take_of_length_le (by omega)
  unfold curS curR curC at hdr
  simp (disch := omega) only [go_sem, seval, reduceCtorEq, hmn, h2, curC]
  (refine ti_callcg [0] [] false (of_decide_eq_true rfl) ?_ _ ?_ (hdr) ?_ ?_; (focus (simp only [go_sem, seval, reduceCtorEq]; done)); (focus (simp only [go_sem, seval, reduceCtorEq]; done)); (focus (first | rfl | (simp only [go_sem, seval, reduceCtorEq]; done))))
  simp (disch := omega) only [go_sem, seval, reduceCtorEq]
  (refine ti_callw [5, 6, 7] false (l05PutV_d (ca := ls) (cb := ds) (cc := L) (m := n * wd) (x := k) (ys := Y) rfl rfl hfl.symm hw hdl h1 (by omega) (by omega) (by omega)) (of_decide_eq_true rfl) ?_ ?_ ?_ ?_ (of_decide_eq_true rfl) ?_; (focus (simp only [go_sem, seval, reduceCtorEq, hpl, hdl, hyt]; done)); (focus (simp only [go_sem, seval, reduceCtorEq]; done)); (focus (simp only [go_sem, seval, reduceCtorEq, hpl, hdl, hyt]; done)); (focus (simp only [go_sem, seval, reduceCtorEq]; done)))
  simp (disch := omega) only [go_sem, seval, reduceCtorEq]
  (refine Next.drop (mkB 29 268402688) (by omega) (h1 := ?_) (h2 := ?_) <;> first | (simp only [go_sem, seval, reduceCtorEq, nz, na, n1, e1, e2, curC]; first | done | rfl) | rfl | skip)
 ·obtain rfl : k = n := by omega
  have h2 : ¬ (k : Int) < k := by omega
  simp (disch := omega) only [go_sem, seval, reduceCtorEq, hmn, h2, curC]
  (refine FnEnd.mk (nb rfl) rfl (of_decide_eq_true rfl) ?_ ?_ <;> try simp only [go_sem, seval, reduceCtorEq])
def gTen (b : List Int) (r : Rg) (wd : Nat) (c : Cur) : Cur × Ten :=
 ((gFill b r wd (prodI (dimsL (gLabs b c).2)).toNat (gLabs b c).1 (prodI (dimsL (gLabs b c).2)).toNat).1,
  ⟨(gLabs b c).2, dimsL (gLabs b c).2, (gFill b r wd (prodI (dimsL (gLabs b c).2)).toNat (gLabs b c).1 (prodI (dimsL (gLabs b c).2)).toNat).2⟩)
theorem gLabs_ok {b : List Int} {c : Cur} (h : c.i ≤ b.length) : (gLabs b c).1.i ≤ b.length := gLab_ok (gBelow_ok (n := 4) h) _
theorem gTen_ok {b : List Int} {r : Rg} {wd : Nat} {c : Cur} (h : c.i ≤ b.length) : (gTen b r wd c).1.i ≤ b.length := gFill_ok (gLabs_ok h) _
set_option maxHeartbeats 1600000 in
theorem l05Draw_d {b : List Int} (hb : CodeOk b) {c : Cur} (hi : c.i ≤ b.length) {kk pp nn : Int} {wd : Nat} (hr : ringOk ⟨kk, pp, nn⟩ = true) (hw : width ⟨kk, pp, nn⟩ = wd) (h1 : 1 ≤ wd ∧ wd ≤ 6) :
  Does Try.prog 47 [.ptr 0 0, ringA kk pp nn] [curS b c] (ownT 1 (gTen b ⟨kk, pp, nn⟩ wd c).2)
   [curS b (gTen b ⟨kk, pp, nn⟩ wd c).1, some ⟨1, true, iv (gTen b ⟨kk, pp, nn⟩ wd c).2.labels⟩, some ⟨1, true, iv (gTen b ⟨kk, pp, nn⟩ wd c).2.dims⟩, some ⟨1, true, iv (gTen b ⟨kk, pp, nn⟩ wd c).2.data⟩] := by
 have hl := l05Labels_d hb hi
 obtain ⟨hax, hl3, hd3⟩ := gLabs_ax b c
 have hpr := prodL_le (gLabs b c).2
 have hp6 := prod6 (ls := (gLabs b c).2) (by omega)
 have hck := gLabs_ok hi
 have hdl := dimsL_len (gLabs b c).2
 unfold gTen
 generalize gLabs b c = T at hl hax hl3 hd3 hpr hp6 hck hdl
 obtain ⟨c1, ls⟩ := T
 simp only at hl hax hl3 hd3 hpr hp6 hck hdl ⊢
 generalize dimsL ls = ds at hl hax hd3 hpr hp6 hdl
 have hn : prodI ds = ((prodI ds).toNat : Int) := by omega
 generalize (prodI ds).toNat = n at hn
 have hf := l05Fill_d hb hck hr hw h1 (ls := ls) (ds := ds) (by omega) (by omega) (fun d hd => by have := hd3 d hd; omega) hn (by omega)
 have hfl := gFill_len (b := b) (r := ⟨kk, pp, nn⟩) (wd := wd) (n := n) (c := c1) n (Nat.le_refl _)
 generalize gFill b ⟨kk, pp, nn⟩ wd n c1 n = F at hf hfl
 obtain ⟨c2, D⟩ := F
 simp only at hf hfl ⊢
 unfold ownT
 unfold curS curR curC at hl hf ⊢
 rw [← hfl, hdl] at hf
 show Does _ _ _ _ (.agg [.own 1 0 ls.length, .own 2 0 ds.length, .own 3 0 D.length]) _
 rw [hdl]
 (refine spec_of (by kernel_rfl) Try.func47 k_spec_l05Draw (fnOk (nb rfl) ?_); unfold C_spec_l05Draw)
 (simp only [Nat.reduceSub, List.length_cons, List.length_nil, Nat.reduceAdd, ch_init1, ch_init2, ch_init3, ch_init4, ch_init5, ch_init6, ch_init7, ch_init8]; try simp only [ch_rep]); (simp only [go_sem, seval, reduceCtorEq, List.replicate])
 (refine ti_callcg [0] [] false (of_decide_eq_true rfl) ?_ _ ?_ (hl) ?_ ?_; (focus (simp only [go_sem, seval, reduceCtorEq]; done)); (focus (simp only [go_sem, seval, reduceCtorEq]; done)); (focus (first | rfl | (simp only [go_sem, seval, reduceCtorEq]; done))))
 simp (disch := omega) only [go_sem, seval, reduceCtorEq]
 (refine ti_callcg [0, 3, 4] [] false (of_decide_eq_true rfl) ?_ _ ?_ (hf) ?_ ?_; (focus (simp only [go_sem, seval, reduceCtorEq]; done)); (focus (simp only [go_sem, seval, reduceCtorEq]; done)); (focus (first | rfl | (simp only [go_sem, seval, reduceCtorEq]; done))))
 simp (disch := omega) only [go_sem, seval, reduceCtorEq]
 (refine FnEnd.mk (nb rfl) rfl (of_decide_eq_true rfl) ?_ ?_ <;> try simp only [go_sem, seval, reduceCtorEq])
end Go.Proofs.Ytndmbmmnbocmhaa
