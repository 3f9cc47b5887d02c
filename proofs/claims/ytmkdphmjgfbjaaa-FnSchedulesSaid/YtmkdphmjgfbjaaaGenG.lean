/-
 Contracts: networks drawn. No condition.
-/
import Derived.Test.YtmkdphmjgfbjaaaGenD
import Derived.Test.YtmkdphmjgfbjaaaNetE
import Derived.Test.YtmkdphmjgfbjaaaNetG
import Derived.Test.YtmkdphmjgfbjaaaPlD
import Derived.Test.YtmkdphmjgfbjaaaLiftI
set_option linter.unusedSimpArgs false
set_option linter.unusedVariables false
namespace Go.Proofs.Ytmkdphmjgfbjaaa
open Go.RowKit Go.Lift Plain
set_option maxRecDepth 100000
theorem gTen_6 {b : List Int} {r : Rg} {wd : Nat} {c : Cur} (hr : ringOk r = true) (hw : width r = wd) : Nat6 (gTen b r wd c).2 ∧ tensorOk r (gTen b r wd c).2.labels (gTen b r wd c).2.dims (gTen b r wd c).2.data = true := by
 have hm := gBelow_bd (b := b) (n := 4) (by omega) c
 have hl := gLab_len b 6 (gBelow b 4 c).2 (gBelow b 4 c).1.toNat
 have hi := gLab_in (b := b) (n := 6) (by omega) (gBelow b 4 c).2 (gBelow b 4 c).1.toNat
 have hn := gLab_nodup b 6 (gBelow b 4 c).2 (gBelow b 4 c).1.toNat
 have h6 : Nat6 (gTen b r wd c).2 := ⟨rfl, hn, hi, by show (gLabs b c).2.length ≤ 3; unfold gLabs; omega⟩
 have hp := h6.prod
 refine ⟨h6, h6.ok hr ?_ ?_⟩
 ·have h2 := gFill_len (b := b) (r := r) (wd := wd) (n := (prodI (dimsL (gLabs b c).2)).toNat) (c := (gLabs b c).1) (prodI (dimsL (gLabs b c).2)).toNat (Nat.le_refl _)
  have hp' : 1 ≤ prodI (dimsL (gLabs b c).2) ∧ prodI (dimsL (gLabs b c).2) ≤ 729 := hp
  show ((gFill b r wd (prodI (dimsL (gLabs b c).2)).toNat (gLabs b c).1 (prodI (dimsL (gLabs b c).2)).toNat).2.length : Int) = prodI (dimsL (gLabs b c).2) * width r
  rw [h2, hw, Int.natCast_mul]
  congr 1
  omega
 ·have key : ∀ n k c, fits r (gFill b r wd n c k).2 := by
   intro n k c
   induction k with
   | zero =>
    refine fits_of fun x hx => ?_
    have hz : ∀ n, ∀ x ∈ repE (zeroE r.k r.p wd) n, x ∈ zeroE r.k r.p wd := by
     intro n
     induction n with
     | zero => intro x hx; cases hx
     | succ n ih =>
      intro x hx
      rcases List.mem_append.1 hx with h | h
      ·exact ih x h
      ·exact h
    exact fits_mem (zeroE_fits hr) x (hz n x hx)
   | succ k ih => exact putE_fits ih (gDraw_fits hr)
  exact key _ _ _
def gTs (b : List Int) (r : Rg) (wd : Nat) (c : Cur) : Nat → Cur × List Ten
 | 0 => (c, [])
 | k + 1 => ((gTen b r wd (gTs b r wd c k).1).1, (gTs b r wd c k).2 ++ [(gTen b r wd (gTs b r wd c k).1).2])
theorem gTs_ok {b : List Int} {r : Rg} {wd : Nat} {c : Cur} (h : c.i ≤ b.length) : ∀ k, (gTs b r wd c k).1.i ≤ b.length
 | 0 => h
 | k + 1 => gTen_ok (gTs_ok h k)
theorem gTs_len {b : List Int} {r : Rg} {wd : Nat} {c : Cur} : ∀ k, (gTs b r wd c k).2.length = k
 | 0 => rfl
 | k + 1 => by
  show (_ ++ [_]).length = _
  rw [List.length_append, gTs_len k]
  rfl
theorem gTs_6 {b : List Int} {r : Rg} {wd : Nat} {c : Cur} (hr : ringOk r = true) (hw : width r = wd) : ∀ k, ∀ t ∈ (gTs b r wd c k).2, Nat6 t ∧ tensorOk r t.labels t.dims t.data = true
 | 0, t, h => by cases h
 | k + 1, t, h => by
  rcases List.mem_append.1 h with h | h
  ·exact gTs_6 hr hw k t h
  ·rw [List.mem_singleton.1 h]
   exact gTen_6 hr hw
def gSel (b : List Int) (xs : List Int) (c : Cur) : Nat → Cur × List Int
 | 0 => (c, [])
 | k + 1 => ((gOnce b 3 (gSel b xs c k).1).2, if (gOnce b 3 (gSel b xs c k).1).1 = true then (gSel b xs c k).2 ++ [xs.getD k 0] else (gSel b xs c k).2)
theorem gSel_ok {b : List Int} {xs : List Int} {c : Cur} (h : c.i ≤ b.length) : ∀ k, (gSel b xs c k).1.i ≤ b.length
 | 0 => h
 | k + 1 => gOnce_ok (n := 3) (gSel_ok h k)
theorem gSel_sub {b : List Int} {xs : List Int} {c : Cur} : ∀ k, k ≤ xs.length → (gSel b xs c k).2.Sublist (xs.take k)
 | 0, _ => by simp [gSel]
 | k + 1, h => by
  have ih := gSel_sub (b := b) (xs := xs) (c := c) k (by omega)
  rw [take_ss (show k < xs.length by omega)]
  simp only [gSel]
  split
  ·rw [getD_of (show k < xs.length by omega)]
   exact ih.append (List.Sublist.refl _)
  ·exact ih.trans (List.sublist_append_left _ _)
theorem gSel_len {b : List Int} {xs : List Int} {c : Cur} (k : Nat) (h : k ≤ xs.length) : (gSel b xs c k).2.length ≤ k := by
 have := (gSel_sub (b := b) (c := c) k h).length_le
 rw [List.length_take] at this
 omega
theorem pickTo_nd (p : Nat → Bool) (n : Nat) : (pickTo p n).Nodup := by
 unfold pickTo
 refine List.Pairwise.map _ (fun a b h => ?_) (List.nodup_range.filter _)
 intro e
 exact h (by exact_mod_cast e)
def gNet (b : List Int) (r : Rg) (wd : Nat) (most : Int) (c : Cur) : Cur × Net :=
 let T := gTs b r wd (gBelow b (most + 1) c).2 (gBelow b (most + 1) c).1.toNat
 let L := pickTo (labP T.2) 100
 let S := gShuf b T.1 L L.length
 let O := gSel b S.2 S.1 S.2.length
 (O.1, ⟨r.k, r.p, r.n, T.2, O.2⟩)
theorem nat6_ax {ts : List Ten} (h : ∀ t ∈ ts, Nat6 t) : axOks ts := fun t ht => (h t ht).ax
structure Gen6 (N : Net) : Prop where
 ok : netOk N = true
 six : ∀ t ∈ N.ts, Nat6 t
theorem gNet_6 {b : List Int} {r : Rg} {wd : Nat} {most : Int} {c : Cur} (hr : ringOk r = true) (hw : width r = wd) (hm : 0 ≤ most ∧ most ≤ 11) : Gen6 (gNet b r wd most c).2 ∧ ((gNet b r wd most c).2.ts.length : Int) ≤ most := by
 have hb := gBelow_bd (b := b) (n := most + 1) (by omega) c
 have h1 := gTs_6 (b := b) (c := (gBelow b (most + 1) c).2) hr hw (gBelow b (most + 1) c).1.toNat
 have h2 := gTs_len (b := b) (r := r) (wd := wd) (c := (gBelow b (most + 1) c).2) (gBelow b (most + 1) c).1.toNat
 have hax := nat6_ax fun t ht => (h1 t ht).1
 have hnd := pickTo_nd (labP (gTs b r wd (gBelow b (most + 1) c).2 (gBelow b (most + 1) c).1.toNat).2) 100
 refine ⟨⟨net6_ok (N := (gNet b r wd most c).2) hr ?_ h1 ?_ ?_, fun t ht => (h1 t ht).1⟩, ?_⟩
 ·show (gTs b r wd _ _).2.length ≤ 12
  rw [h2]; omega
 ·unfold gNet
  simp only
  generalize (gTs b r wd (gBelow b (most + 1) c).2 (gBelow b (most + 1) c).1.toNat) = T at *
  have hp := gShuf_perm (b := b) T.1 (pickTo (labP T.2) 100) _ (Nat.le_refl _)
  have hs := gSel_sub (b := b) (xs := (gShuf b T.1 (pickTo (labP T.2) 100) (pickTo (labP T.2) 100).length).2) (c := (gShuf b T.1 (pickTo (labP T.2) 100) (pickTo (labP T.2) 100).length).1) _ (Nat.le_refl _)
  rw [List.take_length] at hs
  exact (hp.nodup_iff.2 hnd).sublist hs
 ·unfold gNet
  simp only
  generalize (gTs b r wd (gBelow b (most + 1) c).2 (gBelow b (most + 1) c).1.toNat) = T at *
  intro x hx
  have hp := gShuf_perm (b := b) T.1 (pickTo (labP T.2) 100) _ (Nat.le_refl _)
  have hs := gSel_sub (b := b) (xs := (gShuf b T.1 (pickTo (labP T.2) 100) (pickTo (labP T.2) 100).length).2) (c := (gShuf b T.1 (pickTo (labP T.2) 100) (pickTo (labP T.2) 100).length).1) _ (Nat.le_refl _)
  rw [List.take_length] at hs
  have h3 := hp.mem_iff.1 (hs.subset hx)
  exact labP_ten ((labP_mem hax).1 h3)
 ·show ((gTs b r wd _ _).2.length : Int) ≤ most
  rw [h2]; omega
theorem tensorOk_fits {r : Rg} {ls ds xs : List Int} (h : tensorOk r ls ds xs = true) : fits r xs := by
 simp only [tensorOk, Bool.and_eq_true, fitsB, decide_eq_true_eq] at h
 exact h.2
theorem ring_i64 {r : Rg} (h : ringOk r = true) : I64 r.k ∧ I64 r.p ∧ I64 r.n := by
 have hp : ∀ {p : Int}, isPrime p = true → 2 ≤ p ∧ p ≤ 1000003 := fun h => isPrime_bd h
 unfold ringOk at h
 unfold I64
 split at h
 ·simp at h; omega
 ·split at h
  ·simp only [Bool.and_eq_true, decide_eq_true_eq] at h; have := hp h.1; omega
  ·split at h
   ·simp only [decide_eq_true_eq] at h; omega
   ·split at h
    ·simp only [decide_eq_true_eq] at h; omega
    ·split at h
     ·simp only [Bool.and_eq_true, decide_eq_true_eq] at h; have := hp h.1; omega
     ·split at h
      ·simp only [Bool.and_eq_true, decide_eq_true_eq] at h; have := hp h.1; omega
      ·cases h
theorem Nat6.sz {r : Rg} {t : Ten} (h : Nat6 t) (ht : tensorOk r t.labels t.dims t.data = true) : TSz 1048576 t := by
 have hfa := tensorOk_facts ht
 have hr := hfa.1
 have hp := hfa.2.2.1
 have hl := hfa.2.2.2.2.2
 have hf := tensorOk_fits ht
 have hw := width_bd hr
 have htp := top_bd hr
 have h3 := h.len
 have hlen : (t.data.length : Int) ≤ 4096 * 6 := by
  rw [hl]
  exact Int.mul_le_mul (by omega) hw.2 (by omega) (by omega)
 refine ⟨⟨by omega, fun x hx => ?_⟩, ⟨by rw [h.dims, dimsL_len]; omega, fun x hx => ?_⟩, ⟨by omega, fun x hx => ?_⟩⟩
 ·have := h.bd x hx; unfold I64; omega
 ·rw [h.dims] at hx
  obtain ⟨y, hy, rfl⟩ := List.mem_map.1 hx
  have := dimL_bd (x := y)
  unfold I64; omega
 ·have := fits_mem hf x hx
  unfold I64; omega
theorem Gen6.ots {N : Net} (h : Gen6 N) : ∀ x ∈ N.os, ∃ t ∈ N.ts, x ∈ t.labels := fun x hx => by
 have h0 := (netOk_iff.1 h.ok).2.2.2.2
 have hax : axOk N.os (N.os.map (dimN N.ts)) := by
  false_or_by_contra
  rename_i hc
  exact h0 (if_neg fun hc' => hc hc'.1)
 have := hax.dim (dimN N.ts x) (List.mem_map.2 ⟨x, hx, rfl⟩)
 exact labP_ten (by omega)
theorem Gen6.sz {N : Net} (h : Gen6 N) : NSz 1048576 N := by
 obtain ⟨h1, h2, h3, _, h5⟩ := netOk_iff.1 h.ok
 obtain ⟨k1, k2, k3⟩ := ring_i64 h1
 have hb : ∀ x ∈ N.os, 0 ≤ x ∧ x < 6 := fun x hx => by
  obtain ⟨t, h1, h2⟩ := h.ots x hx
  exact (h.six t h1).bd x h2
 have hax : axOk N.os (N.os.map (dimN N.ts)) := by
  false_or_by_contra
  rename_i hc
  exact h5 (if_neg fun hc' => hc hc'.1)
 have hl := len6 (axOk_nodup hax) hb
 exact ⟨k1, k2, k3, by omega, fun t ht => (h.six t ht).sz (h3 t ht), ⟨by omega, fun x hx => by have := hb x hx; unfold I64; omega⟩⟩
theorem l12LabelsG_d {ts : List Ten} (h : ts.length ≤ 1048576) (ht : ∀ t ∈ ts, TSz 1048576 t) (hax : axOks ts) : Does Try.prog 27 [.d (tens ts)] [] (.own 0 0 (pickTo (labP ts) 100).length) [some ⟨1, true, iv (pickTo (labP ts) 100)⟩] := l12Labels_d h ht hax
set_option maxHeartbeats 3200000 in
theorem l12Net_d {b : List Int} (hb : CodeOk b) {c : Cur} (hi : c.i ≤ b.length) {kk pp nn most : Int} {wd : Nat} (hr : ringOk ⟨kk, pp, nn⟩ = true) (hw : width ⟨kk, pp, nn⟩ = wd) (h1 : 1 ≤ wd ∧ wd ≤ 6) (hm : 0 ≤ most ∧ most ≤ 11) :
  Does Try.prog 15 [.ptr 0 0, ringA kk pp nn, .d (.int most)] [curS b c] (ownN 1 (gNet b ⟨kk, pp, nn⟩ wd most c).2)
   [curS b (gNet b ⟨kk, pp, nn⟩ wd most c).1, some ⟨3, true, tcA (gNet b ⟨kk, pp, nn⟩ wd most c).2.ts⟩, some ⟨1, true, iv (gNet b ⟨kk, pp, nn⟩ wd most c).2.os⟩] := by
 have h0 := gBelow_d hb hi (n := most + 1) (by omega)
 have hr0 := gBelow_bd (b := b) (n := most + 1) (by omega) c
 have hc0 := gBelow_ok (n := most + 1) hi
 unfold gNet
 simp only
 generalize gBelow b (most + 1) c = T0 at h0 hr0 hc0
 obtain ⟨m0, c0⟩ := T0
 simp only at h0 hr0 hc0
 obtain ⟨m, rfl⟩ := Int.eq_ofNat_of_zero_le hr0.1
 simp only [Int.toNat_natCast]
 have hTok := gTs_ok (r := ⟨kk, pp, nn⟩) (wd := wd) hc0 m
 have hTlen := gTs_len (b := b) (r := ⟨kk, pp, nn⟩) (wd := wd) (c := c0) m
 have hT6 := gTs_6 (b := b) (c := c0) hr hw m
 generalize hT : gTs b ⟨kk, pp, nn⟩ wd c0 m = T at hTok hTlen hT6
 obtain ⟨cT, ts⟩ := T
 simp only at hTok hTlen hT6 ⊢
 have hLlen := pickTo_len (labP ts) 100
 have hlab := l12LabelsG_d (ts := ts) (by omega) (fun t ht => (hT6 t ht).1.sz (hT6 t ht).2) (nat6_ax fun t ht => (hT6 t ht).1)
 generalize pickTo (labP ts) 100 = L at hLlen hlab
 have hshd := l06Shuffle_d hb hTok (xs := L) (by omega)
 have hsl := gShuf_len b cT L L.length
 have hsc := gShuf_ok hTok L L.length
 generalize gShuf b cT L L.length = S at hshd hsl hsc
 obtain ⟨cS, M⟩ := S
 simp only at hshd hsl hsc ⊢
 have hOl := gSel_len (b := b) (xs := M) (c := cS) M.length (Nat.le_refl _)
 generalize hO : gSel b M cS M.length = O at hOl
 obtain ⟨cO, os⟩ := O
 simp only at hOl ⊢
 unfold ownN
 simp only
 (refine spec_ofW _ (by kernel_rfl) Try.func15 k_spec_l12Net (fnOk (nb rfl) ?_); unfold C_spec_l12Net)
 unfold curS curR curC at h0 ⊢
 have hwr : IntKind.i64.wrap (most + 1) = most + 1 := IntWalk.i64_in _ (by omega)
 (simp only [Nat.reduceSub, List.length_cons, List.length_nil, Nat.reduceAdd, ch_init1, ch_init2, ch_init3, ch_init4, ch_init5, ch_init6, ch_init7, ch_init8]; try simp only [ch_rep]); (simp only [go_sem, seval, reduceCtorEq, List.replicate])
 simp only [go_sem, seval, reduceCtorEq, hwr]
 (refine ti_callcg [0] [] false (of_decide_eq_true rfl) ?_ _ ?_ (h0) ?_ ?_; (focus (simp only [go_sem, seval, reduceCtorEq]; done)); (focus (simp only [go_sem, seval, reduceCtorEq]; done)); (focus (first | rfl | (simp only [go_sem, seval, reduceCtorEq]; done))))
 simp (disch := omega) only [go_sem, seval, reduceCtorEq]
 (refine wpN_lwk (Wk.nilS 3 3 3 _ _ _ rfl rfl) ?_; simp only [go_sem, seval, reduceCtorEq])
 have e0 : (gTs b ⟨kk, pp, nn⟩ wd c0 0) = (c0, []) := rfl
 refine wpN_lp (m) (mkB 49 536739840) (fun k => [(8, .d (.int ((m : Int) - k)))]) (fun k => [(0, curC b (gTs b ⟨kk, pp, nn⟩ wd c0 k).1.i (gTs b ⟨kk, pp, nn⟩ wd c0 k).1.h), (3, [.d (.int kk), .d (.int pp), .d (.int nn), .own 4 0 k, .nil]), (4, tcA (gTs b ⟨kk, pp, nn⟩ wd c0 k).2)]) (h1 := by first | (simp only [go_sem, seval, reduceCtorEq, nz, na, n1, e0, tcA_nil, curC, Int.sub_zero]; first | done | rfl) | rfl) (h2 := by first | (simp only [go_sem, seval, reduceCtorEq, nz, na, n1, e0, tcA_nil, curC, Int.sub_zero]; first | done | rfl) | rfl) (hr := fun k hk => ?_)
 unfold L1_spec_l12Net
 by_cases hlt : k < m
 ·have d1 : (m : Int) - k > 0 := by omega
  have hs : gTs b ⟨kk, pp, nn⟩ wd c0 (k + 1) = ((gTen b ⟨kk, pp, nn⟩ wd (gTs b ⟨kk, pp, nn⟩ wd c0 k).1).1, (gTs b ⟨kk, pp, nn⟩ wd c0 k).2 ++ [(gTen b ⟨kk, pp, nn⟩ wd (gTs b ⟨kk, pp, nn⟩ wd c0 k).1).2]) := rfl
  have hl := gTs_len (b := b) (r := ⟨kk, pp, nn⟩) (wd := wd) (c := c0) k
  have hck := gTs_ok (r := ⟨kk, pp, nn⟩) (wd := wd) hc0 k
  generalize gTs b ⟨kk, pp, nn⟩ wd c0 k = S at hs hl hck
  obtain ⟨c1, l⟩ := S
  simp only at hl hck hs
  have hd := l05Draw_d hb hck hr hw h1
  generalize gTen b ⟨kk, pp, nn⟩ wd c1 = U at hd hs
  obtain ⟨c2, t⟩ := U
  simp only at hd hs
  have e1 : (gTs b ⟨kk, pp, nn⟩ wd c0 (k + 1)).1 = c2 := by rw [hs]
  have e2 : (gTs b ⟨kk, pp, nn⟩ wd c0 (k + 1)).2 = l ++ [t] := by rw [hs]
  have d5 : (m : Int) - k - 1 = (m : Int) - ((k + 1 : Nat) : Int) := by omega
  unfold curS curR curC ownT at hd
  simp (disch := omega) only [go_sem, seval, reduceCtorEq, d1, curC]
  (refine ti_callcg [0] [] false (of_decide_eq_true rfl) ?_ _ ?_ (hd) ?_ ?_; (focus (simp only [go_sem, seval, reduceCtorEq]; done)); (focus (simp only [go_sem, seval, reduceCtorEq]; done)); (focus (first | rfl | (simp only [go_sem, seval, reduceCtorEq]; done))))
  simp (disch := omega) only [go_sem, seval, reduceCtorEq]
  refine And.intro (by omega) (And.intro (by omega) ?_)
  (refine Next.mk (by omega) (Wk.trans (Wk.drG [5, 6, 7] 5 (nb rfl) (nb rfl) (of_decide_eq_true rfl) (of_decide_eq_true rfl)) ?_)); (simp only [go_sem, seval, reduceCtorEq, nz, na, n1, e1, e2, tcA_app, tcA_one, curC, d5]); (refine Wk.eq (Wk.ad3s (mkB 49 536739840) 4 3 (k * 3) true (τ := [_, _, _, _, _]) (nb rfl) rfl (by rw [tcA_len, hl]) rfl (treL_iv _) (treL_iv _) (treL_iv _) (by simp only [go_sem, seval, reduceCtorEq]) (by simp only [go_sem, seval, reduceCtorEq]) (by simp only [go_sem, seval, reduceCtorEq]) (fun _ => rnL_iv _) (fun _ => rnL_iv _)) ?_ ?_ <;> first | (simp only [go_sem, seval, reduceCtorEq, nz, na, n1, e1, e2, tcA_app, tcA_one, curC, d5]; first | done | rfl) | rfl | skip)
 ·have d1 : ¬ (m : Int) - k > 0 := by omega
  obtain rfl : m = k := by omega
  simp (disch := omega) only [go_sem, seval, reduceCtorEq, d1, hT]
  have ht3 : List.take (m * 3) (tcA ts) = tcA ts := by rw [← hTlen]; exact tcA_take
  (refine ti_call (hlab) ?_ ?_ ?_; (focus (simp only [go_sem, seval, reduceCtorEq, ht3, hTlen, cellsD_tcA]; done)); (first | rfl | (focus (simp only [go_sem]; done))))
  simp (disch := omega) only [go_sem, seval, reduceCtorEq, curC]
  unfold curS curR curC at hshd
  (refine ti_callcg [0, 5] [] false (of_decide_eq_true rfl) ?_ _ ?_ (hshd) ?_ ?_; (focus (simp only [go_sem, seval, reduceCtorEq]; done)); (focus (simp only [go_sem, seval, reduceCtorEq]; done)); (focus (first | rfl | (simp only [go_sem, seval, reduceCtorEq]; done))))
  simp (disch := omega) only [go_sem, seval, reduceCtorEq]
  (refine wpN_lwk (Wk.nilS 3 4 1 _ _ _ rfl rfl) ?_; simp only [go_sem, seval, reduceCtorEq])
  have f0 : (gSel b M cS 0) = (cS, []) := rfl
  refine wpN_lp (L.length) (mkB 49 281406257234944) (fun k => [(35, .d (.int k))]) (fun k => [(0, curC b (gSel b M cS k).1.i (gSel b M cS k).1.h), (3, [.d (.int kk), .d (.int pp), .d (.int nn), .own 4 0 m, .own 7 0 (gSel b M cS k).2.length]), (7, iv (gSel b M cS k).2)]) (h1 := by first | (simp only [go_sem, seval, reduceCtorEq, nz, na, n1, f0, iv_nil, curC]; first | done | rfl) | rfl) (h2 := by first | (simp only [go_sem, seval, reduceCtorEq, nz, na, n1, f0, iv_nil, curC]; first | done | rfl) | rfl) (hr := fun k hk => ?_)
  unfold L0_spec_l12Net
  by_cases hlt : k < L.length
  ·have d1 : (k : Int) < L.length := by omega
   have hs : gSel b M cS (k + 1) = ((gOnce b 3 (gSel b M cS k).1).2, if (gOnce b 3 (gSel b M cS k).1).1 = true then (gSel b M cS k).2 ++ [M.getD k 0] else (gSel b M cS k).2) := rfl
   have hl := gSel_len (b := b) (xs := M) (c := cS) k (by omega)
   have hck := gSel_ok (xs := M) hsc k
   generalize gSel b M cS k = S at hs hl hck
   obtain ⟨c1, l⟩ := S
   simp only at hl hck hs
   have hd := gOnce_d hb hck (n := 3) (by omega)
   generalize gOnce b 3 c1 = U at hd hs
   obtain ⟨o, c2⟩ := U
   simp only at hd hs
   have e1 : (gSel b M cS (k + 1)).1 = c2 := by rw [hs]
   have hkM : k < M.length := by omega
   have g : M[k]? = some M[k] := List.getElem?_eq_getElem hkM
   unfold curS curR curC at hd
   simp (disch := omega) only [go_sem, seval, reduceCtorEq, d1, g, curC, Option.map_some]
   (refine ti_callcg [0] [] false (of_decide_eq_true rfl) ?_ _ ?_ (hd) ?_ ?_; (focus (simp only [go_sem, seval, reduceCtorEq]; done)); (focus (simp only [go_sem, seval, reduceCtorEq]; done)); (focus (first | rfl | (simp only [go_sem, seval, reduceCtorEq]; done))))
   simp (disch := omega) only [go_sem, seval, reduceCtorEq]
   cases o with
   | true =>
    have e2 : (gSel b M cS (k + 1)).2 = l ++ [M[k]] := by rw [hs, getD_of hkM]; rfl
    have el : (l ++ [M[k]]).length = l.length + 1 := by simp
    simp (disch := omega) only [go_sem, seval, reduceCtorEq]
    (repeat (refine And.intro (by omega) ?_))
    (refine Next.drop (mkB 49 281406257234944) (by omega) (h1 := ?_) (h2 := ?_) <;> first | (simp only [go_sem, seval, reduceCtorEq, nz, na, n1, e1, e2, el, curC]; first | done | rfl) | rfl | skip)
   | false =>
    have e2 : (gSel b M cS (k + 1)).2 = l := by rw [hs]; rfl
    simp (disch := omega) only [go_sem, seval, reduceCtorEq]
    (refine Next.drop (mkB 49 281406257234944) (by omega) (h1 := ?_) (h2 := ?_) <;> first | (simp only [go_sem, seval, reduceCtorEq, nz, na, n1, e1, e2, curC]; first | done | rfl) | rfl | skip)
  ·have d1 : ¬ (k : Int) < L.length := by omega
   obtain rfl : k = L.length := by omega
   rw [hsl] at hO
   simp (disch := omega) only [go_sem, seval, reduceCtorEq, d1, hO, curC]
   rw [← hTlen]
   (refine FnEnd.mk (nb rfl) rfl (of_decide_eq_true rfl) ?_ ?_ <;> try simp only [go_sem, seval, reduceCtorEq])
end Go.Proofs.Ytmkdphmjgfbjaaa
