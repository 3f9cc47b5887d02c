/-
 Contracts: orders drawn. No condition.
-/
import Derived.Test.YtmkdphmjgfbjaaaGenG
import Derived.Test.YtmkdphmjgfbjaaaLiftH
import Derived.Test.YtmkdphmjgfbjaaaStp
import Derived.Test.YtmkdphmjgfbjaaaPlO
set_option linter.unusedSimpArgs false
set_option linter.unusedVariables false
namespace Go.Proofs.Ytmkdphmjgfbjaaa
open Go.RowKit Go.Lift Plain
set_option maxRecDepth 100000
def gOrd (b : List Int) (m : Nat) (c : Cur) : Nat → Cur × List Int × List Int
 | 0 => (c, natI (List.range m), [])
 | j + 1 =>
  let S := gShuf b (gOrd b m c j).1 (gOrd b m c j).2.1 (m - j)
  (S.1, S.2.take (m - j - 2) ++ [((m + j : Nat) : Int)], (gOrd b m c j).2.2 ++ [min (S.2.getD (m - j - 2) 0) (S.2.getD (m - j - 1) 0), max (S.2.getD (m - j - 2) 0) (S.2.getD (m - j - 1) 0)])
theorem gOrd_ok {b : List Int} {m : Nat} {c : Cur} (h : c.i ≤ b.length) : ∀ j, (gOrd b m c j).1.i ≤ b.length
 | 0 => h
 | j + 1 => gShuf_ok (gOrd_ok h j) _ _
theorem gOrd_len {b : List Int} {m : Nat} {c : Cur} : ∀ j, j ≤ m - 1 → (gOrd b m c j).2.1.length = m - j ∧ (gOrd b m c j).2.2.length = j * 2
 | 0, _ => by simp [gOrd, natI]
 | j + 1, h => by
  obtain ⟨h1, h2⟩ := gOrd_len (b := b) (m := m) (c := c) j (by omega)
  have h3 := gShuf_len b (gOrd b m c j).1 (gOrd b m c j).2.1 (m - j)
  simp only [gOrd, List.length_append, List.length_take, h3, h1, h2, List.length_cons, List.length_nil]
  omega
theorem gOrd_pre {b : List Int} {m : Nat} {c : Cur} {j : Nat} : ∀ d, ∃ l, (gOrd b m c (j + d)).2.2 = (gOrd b m c j).2.2 ++ l
 | 0 => ⟨[], by simp⟩
 | d + 1 => by
  obtain ⟨l, hl⟩ := gOrd_pre (b := b) (m := m) (c := c) (j := j) d
  rw [← Nat.add_assoc]
  simp only [gOrd]
  rw [hl, List.append_assoc]
  exact ⟨_, rfl⟩
theorem getD_two {A l : List Int} {x y : Int} {q : Nat} (hq : A.length = q) : (A ++ [x, y] ++ l).getD q 0 = x ∧ (A ++ [x, y] ++ l).getD (q + 1) 0 = y := by
 subst hq
 rw [List.append_assoc]
 constructor
 ·rw [List.getD_eq_getElem?_getD, List.getElem?_append_right (Nat.le_refl _), Nat.sub_self]
  rfl
 ·rw [List.getD_eq_getElem?_getD, List.getElem?_append_right (by omega), Nat.add_sub_cancel_left]
  rfl
theorem last_two {nums : List Nat} (hn : nums.Nodup) {S : List Int} (hp : S.Perm (natI nums)) {q : Nat} (hq : S.length = q + 2) :
  ∃ a b : Nat, min (S.getD q 0) (S.getD (q + 1) 0) = a ∧ max (S.getD q 0) (S.getD (q + 1) 0) = b ∧ a ∈ nums ∧ b ∈ nums ∧ a < b ∧ (S.take q).Perm (natI (nums.filter (Osd.off a b))) := by
 have hnd : S.Nodup := hp.nodup_iff.2 (natI_nodup hn)
 have h1 : q < S.length := by omega
 have h2 : q + 1 < S.length := by omega
 rw [getD_of h1, getD_of h2]
 have hS : S = S.take q ++ [S[q], S[q + 1]] := by
  have e1 : S.take (q + 2) = S.take q ++ [S[q]] ++ [S[q + 1]] := by rw [take_ss h2, take_ss h1]
  rw [List.take_of_length_le (by omega)] at e1
  rw [List.append_assoc] at e1
  exact e1
 obtain ⟨x, hx, ex⟩ := natI_mem.1 (hp.mem_iff.1 (List.getElem_mem h1))
 obtain ⟨y, hy, ey⟩ := natI_mem.1 (hp.mem_iff.1 (List.getElem_mem h2))
 have hxy : x ≠ y := fun e => by
  have : S[q] = S[q + 1] := by rw [ex, ey, e]
  have := nodup_at hnd h1 h2 this
  omega
 rw [ex, ey] at hS ⊢
 have hnt : (x : Int) ∉ S.take q ∧ (y : Int) ∉ S.take q := by
  rw [hS] at hnd
  have := List.nodup_append.1 hnd
  exact ⟨fun h => this.2.2 _ h (x : Int) (by simp) rfl, fun h => this.2.2 _ h (y : Int) (by simp) rfl⟩
 have key : (S.take q).Perm (natI (nums.filter (Osd.off x y))) := by
  have hf := hp.filter (fun z : Int => z != x && z != y)
  have e1 : S.filter (fun z : Int => z != x && z != y) = S.take q := by
   rw [hS, List.filter_append]
   have e2 : [(x : Int), (y : Int)].filter (fun z : Int => z != x && z != y) = [] := by simp
   rw [e2, List.append_nil]
   have e3 : (S.take q ++ [(x : Int), (y : Int)]).take q = S.take q := by rw [← hS]
   rw [e3]
   refine List.filter_eq_self.2 fun z hz => ?_
   have a1 : z ≠ x := fun e => hnt.1 (e ▸ hz)
   have a2 : z ≠ y := fun e => hnt.2 (e ▸ hz)
   simp [a1, a2]
  have e4 : (natI nums).filter (fun z : Int => z != x && z != y) = natI (nums.filter (Osd.off x y)) := by
   unfold natI
   rw [List.filter_map]
   congr 1
   refine List.filter_congr fun i _ => ?_
   have e5 : ∀ u : Nat, ((i : Int) != (u : Int)) = (i != u) := fun u => by
    rw [Bool.eq_iff_iff]
    simp only [bne_iff_ne, ne_eq]
    omega
   simp only [Function.comp_apply, Osd.off, e5]
  rw [e1, e4] at hf
  exact hf
 rcases Nat.lt_or_ge x y with h | h
 ·exact ⟨x, y, by omega, by omega, hx, hy, h, key⟩
 ·refine ⟨y, x, by omega, by omega, hy, hx, by omega, ?_⟩
  have : Osd.off y x = Osd.off x y := by
   funext i
   unfold Osd.off
   rw [Bool.and_comm]
  rw [this]
  exact key
theorem gOrd_ord {b : List Int} {m : Nat} {c : Cur} {os : List Int} {s : Osd} (hs : OsOk s m) (hall : s.nums = List.range m) {F : List Int} (hF : F = (gOrd b m c (m - 1)).2.2) :
  ∀ j, j ≤ m - 1 → (ordTo os F s j).2 = true ∧ (gOrd b m c j).2.1.Perm (natI (ordTo os F s j).1.nums)
 | 0, _ => ⟨rfl, by rw [show (ordTo os F s 0).1 = s from rfl, hall]; exact List.Perm.refl _⟩
 | j + 1, hj => by
  obtain ⟨h1, h2⟩ := gOrd_ord (os := os) hs hall hF j (by omega)
  obtain ⟨l1, l2⟩ := gOrd_len (b := b) (m := m) (c := c) j (by omega)
  have hok := ordTo_ok hs j h1
  have hp := gShuf_perm (b := b) (gOrd b m c j).1 (gOrd b m c j).2.1 (m - j) (by omega)
  have hl := gShuf_len b (gOrd b m c j).1 (gOrd b m c j).2.1 (m - j)
  have hg : (gOrd b m c (j + 1)).2.1 = (gShuf b (gOrd b m c j).1 (gOrd b m c j).2.1 (m - j)).2.take (m - j - 2) ++ [((m + j : Nat) : Int)] := rfl
  have hg2 : (gOrd b m c (j + 1)).2.2 = (gOrd b m c j).2.2 ++ [min ((gShuf b (gOrd b m c j).1 (gOrd b m c j).2.1 (m - j)).2.getD (m - j - 2) 0) ((gShuf b (gOrd b m c j).1 (gOrd b m c j).2.1 (m - j)).2.getD (m - j - 1) 0), max ((gShuf b (gOrd b m c j).1 (gOrd b m c j).2.1 (m - j)).2.getD (m - j - 2) 0) ((gShuf b (gOrd b m c j).1 (gOrd b m c j).2.1 (m - j)).2.getD (m - j - 1) 0)] := rfl
  obtain ⟨l, hl3⟩ := gOrd_pre (b := b) (m := m) (c := c) (j := j + 1) (m - 1 - (j + 1))
  rw [show j + 1 + (m - 1 - (j + 1)) = m - 1 by omega, ← hF] at hl3
  rw [hg]
  rw [hg2] at hl3
  generalize (gShuf b (gOrd b m c j).1 (gOrd b m c j).2.1 (m - j)).2 = S at hp hl hl3
  have hq : S.length = (m - j - 2) + 2 := by omega
  obtain ⟨x, y, e1, e2, e3, e4, e5, e6⟩ := last_two (nums_nodup _) (hp.trans h2) hq
  rw [show m - j - 2 + 1 = m - j - 1 by omega] at e1 e2
  rw [e1, e2] at hl3
  obtain ⟨g1, g2⟩ := getD_two (A := (gOrd b m c j).2.2) (l := l) (x := x) (y := y) l2
  rw [← hl3] at g1 g2
  have hfol : followB (ordTo os F s j).1 (F.getD (j * 2) 0) (F.getD (j * 2 + 1) 0) = true := by
   rw [g1, g2]
   exact decide_eq_true ⟨natI_mem.2 ⟨x, e3, rfl⟩, natI_mem.2 ⟨y, e4, rfl⟩, by omega⟩
  have hst := ordTo_yes h1 hfol
  rw [hst]
  refine ⟨rfl, ?_⟩
  rw [g1, g2]
  simp only [Int.toNat_natCast]
  rw [nums_step hok]
  have : natI ((ordTo os F s j).1.nums.filter (Osd.off x y) ++ [m + j]) = natI ((ordTo os F s j).1.nums.filter (Osd.off x y)) ++ [((m + j : Nat) : Int)] := by simp [natI]
  rw [this]
  exact e6.append (List.Perm.refl _)
theorem osInit_nums (ts : List Ten) : (osInit ts).nums = List.range ts.length := by
 unfold Osd.nums osInit
 simp only [List.length_map]
 refine List.filter_eq_self.2 fun i hi => ?_
 have : i < ts.length := by simpa using hi
 simp [Osd.alive, this]
theorem gOrd_valid {N : Net} (h : netOk N = true) (b : List Int) (c : Cur) : orderOk N (N.ts.length - 1) (gOrd b N.ts.length c (N.ts.length - 1)).2.2 = true :=
 orderOk_iff.2 ⟨h, rfl, (gOrd_ord (osInit_ok (netOk_ax h)) (osInit_nums _) rfl _ (Nat.le_refl _)).1⟩
theorem natI_succ (k : Nat) : natI (List.range (k + 1)) = natI (List.range k) ++ [(k : Int)] := by simp [natI, List.range_succ]
theorem natI_snoc (l : List Nat) (k : Nat) : natI (l ++ [k]) = natI l ++ [(k : Int)] := by simp [natI]
set_option maxHeartbeats 1600000 in
theorem l17Order_d {b : List Int} (hb : CodeOk b) {c : Cur} (hi : c.i ≤ b.length) {m : Nat} (hm : m ≤ 1000) :
  Does Try.prog 16 [.ptr 0 0, .d (.int m)] [curS b c] (.own 1 0 (m - 1)) [curS b (gOrd b m c (m - 1)).1, some ⟨2, true, iv (gOrd b m c (m - 1)).2.2⟩] := by
 generalize hO : gOrd b m c (m - 1) = O
 obtain ⟨cO, tO, sO⟩ := O
 simp only
 (refine spec_of (by kernel_rfl) Try.func16 k_spec_l17Order (fnOk (nb rfl) ?_); unfold C_spec_l17Order)
 unfold curS curR curC
 (simp only [Nat.reduceSub, List.length_cons, List.length_nil, Nat.reduceAdd, ch_init1, ch_init2, ch_init3, ch_init4, ch_init5, ch_init6, ch_init7, ch_init8]; try simp only [ch_rep]); (simp only [go_sem, seval, reduceCtorEq, List.replicate])
 have e0 : natI (List.range 0) = [] := rfl
 refine wpN_lp (m) (mkB 64 523776) (fun k => [(5, .own 1 0 k), (6, .d (.int k))]) (fun k => [(1, iv (natI (List.range k)))]) (h1 := by first | (simp only [go_sem, seval, reduceCtorEq, nz, na, n1, e0, iv_nil]; first | done | rfl) | rfl) (h2 := by first | (simp only [go_sem, seval, reduceCtorEq, nz, na, n1, e0, iv_nil]; first | done | rfl) | rfl) (hr := fun k hk => ?_)
 unfold L1_spec_l17Order
 by_cases hlt : k < m
 ·have d1 : (k : Int) < m := by omega
  have hnl : (natI (List.range k)).length = k := by simp [natI]
  simp (disch := omega) only [go_sem, seval, reduceCtorEq, d1, hnl]
  (repeat (refine And.intro (by omega) ?_))
  (refine Next.drop (mkB 64 523776) (by omega) (h1 := ?_) (h2 := ?_) <;> first | (simp only [go_sem, seval, reduceCtorEq, nz, na, n1, natI_succ, natI_snoc]; first | done | rfl) | rfl | skip)
 ·have d1 : ¬ (k : Int) < m := by omega
  obtain rfl : m = k := by omega
  simp (disch := omega) only [go_sem, seval, reduceCtorEq, d1]
  have f0 : gOrd b m c 0 = (c, natI (List.range m), []) := rfl
  refine wpN_lp (m - 1) (mkB 64 9223372036854251776) (fun k => [(5, .own 1 0 (m - k)), (7, .own 2 0 k)]) (fun k => [(0, curC b (gOrd b m c k).1.i (gOrd b m c k).1.h), (1, iv (gOrd b m c k).2.1), (2, iv (gOrd b m c k).2.2)]) (h1 := by first | (simp only [go_sem, seval, reduceCtorEq, nz, na, n1, f0, iv_nil, curC, Nat.sub_zero]; first | done | rfl) | rfl) (h2 := by first | (simp only [go_sem, seval, reduceCtorEq, nz, na, n1, f0, iv_nil, curC, Nat.sub_zero]; first | done | rfl) | rfl) (hr := fun k hk => ?_)
  unfold L0_spec_l17Order
  by_cases hlt : k < m - 1
  ·have d1 : ((m - k : Nat) : Int) > 1 := by omega
   have hs : gOrd b m c (k + 1) = ((gShuf b (gOrd b m c k).1 (gOrd b m c k).2.1 (m - k)).1, (gShuf b (gOrd b m c k).1 (gOrd b m c k).2.1 (m - k)).2.take (m - k - 2) ++ [((m + k : Nat) : Int)], (gOrd b m c k).2.2 ++ [min ((gShuf b (gOrd b m c k).1 (gOrd b m c k).2.1 (m - k)).2.getD (m - k - 2) 0) ((gShuf b (gOrd b m c k).1 (gOrd b m c k).2.1 (m - k)).2.getD (m - k - 1) 0), max ((gShuf b (gOrd b m c k).1 (gOrd b m c k).2.1 (m - k)).2.getD (m - k - 2) 0) ((gShuf b (gOrd b m c k).1 (gOrd b m c k).2.1 (m - k)).2.getD (m - k - 1) 0)]) := rfl
   have hl := gOrd_len (b := b) (m := m) (c := c) k (by omega)
   have hck := gOrd_ok (m := m) hi k
   generalize gOrd b m c k = S at hs hl hck
   obtain ⟨c1, L, F⟩ := S
   simp only at hl hck hs
   obtain ⟨hl, hlF⟩ := hl
   have hd := l06Shuffle_d hb hck (xs := L) (by omega)
   have hsl := gShuf_len b c1 L L.length
   rw [hl] at hd hsl
   generalize gShuf b c1 L (m - k) = U at hd hs hsl
   obtain ⟨c2, M⟩ := U
   simp only at hd hs hsl
   obtain ⟨q, hq⟩ : ∃ q, m - k = q + 2 := ⟨m - k - 2, by omega⟩
   rw [hq] at hd hs hsl hl d1 ⊢
   have q0 : q < M.length := by omega
   have q1 : q + 1 < M.length := by omega
   rw [show q + 2 - 2 = q by omega, show q + 2 - 1 = q + 1 by omega, getD_of q0, getD_of q1] at hs
   have g0 : M[q]? = some M[q] := List.getElem?_eq_getElem q0
   have g1 : M[q + 1]? = some M[q + 1] := List.getElem?_eq_getElem q1
   unfold curS curR curC at hd
   simp (disch := omega) only [go_sem, seval, reduceCtorEq, d1, curC]
   (refine ti_callcg [0, 1] [] false (of_decide_eq_true rfl) ?_ _ ?_ (hd) ?_ ?_; (focus (simp only [go_sem, seval, reduceCtorEq]; done)); (focus (simp only [go_sem, seval, reduceCtorEq]; done)); (focus (first | rfl | (simp only [go_sem, seval, reduceCtorEq]; done))))
   have a1 : ((q + 2 : Nat) : Int) - 2 = (q : Int) := by omega
   have a2 : (q : Int) + 1 = ((q + 1 : Nat) : Int) := by omega
   simp (disch := omega) only [go_sem, seval, reduceCtorEq, a1, a2, g0, g1, Option.map_some]
   refine ⟨by omega, by omega, by omega, by omega, by omega, by omega, ?_⟩
   refine GH.mk (Wk.shrink 3 q (xs := M) rfl) ?_
   have htq : (M.take q).length = q := by rw [List.length_take]; omega
   have a3 : (q : Int) ≤ ((q + 2 : Nat) : Int) := by omega
   have a4 : (m : Int) + ((k + 1 : Nat) : Int) - 1 = ((m + k : Nat) : Int) := by omega
   have a5 : m - (k + 1) = q + 1 := by omega
   simp (disch := omega) only [go_sem, seval, reduceCtorEq, htq, a3, a4, true_or, if_true, Int.sub_zero, Int.toNat_natCast]
   refine And.intro (by omega) ?_
   have e1 : (gOrd b m c (k + 1)).1 = c2 := by rw [hs]
   have e2 : (gOrd b m c (k + 1)).2.1 = M.take q ++ [((m + k : Nat) : Int)] := by rw [hs]
   have e3 : (gOrd b m c (k + 1)).2.2 = F ++ [min M[q] M[q + 1], max M[q] M[q + 1]] := by rw [hs]
   (refine Next.ren (mkB 64 9223372036854251776) [3, 2] 1 (by omega) (nb rfl) (nb rfl) (of_decide_eq_true rfl) (of_decide_eq_true rfl) ?_ ?_ <;> first | (simp only [go_sem, seval, reduceCtorEq, nz, na, n1, e1, e2, e3, a5, iv_snoc2, curC]; first | done | rfl) | rfl | skip)
  ·have d1 : ¬ ((m - k : Nat) : Int) > 1 := by omega
   obtain rfl : k = m - 1 := by omega
   simp (disch := omega) only [go_sem, seval, reduceCtorEq, d1, hO, curC]
   (refine FnEnd.mk (nb rfl) rfl (of_decide_eq_true rfl) ?_ ?_ <;> try simp only [go_sem, seval, reduceCtorEq])
end Go.Proofs.Ytmkdphmjgfbjaaa
namespace Go.Lift
theorem at_none2 : at_ [none, none] = at_ [] := by
 funext k
 rcases k with _ | _ | k <;> simp [at_]
theorem Does.noneS2 {P : Program} {f : FuncId} {args : List AV} {res : AV} (h : Does P f args [] res [none, none]) : Does P f args [] res [] := by
 unfold Does at *
 rw [at_none2] at h
 exact h
end Go.Lift
namespace Go.Proofs.Ytmkdphmjgfbjaaa
open Go.RowKit Go.Lift Plain
set_option maxRecDepth 100000
theorem wk_fzN {N : Net} {g g' : Bool} : Wk 0 [ownN 0 N] [some ⟨3, g, tcA N.ts⟩, some ⟨1, g', iv N.os⟩] [netA N] [none, none] := by
 have h3 := tcs_take (ts := N.ts)
 have h1 : (dv N.os).take (N.os.length * 1) = dv N.os := List.take_of_length_le (by rw [dv_len]; omega)
 have hm : ∀ f : AV → AV, (∀ x, f (.d x) = .d x) → mapL f (iv N.os) = iv N.os := fun f hf => by
  rw [mapL_eq]
  unfold iv
  rw [List.map_map]
  exact List.map_congr_left fun x _ => by simp [mapA, hf]
 refine Wk.trans (Wk.freeze 0 (R := ⟨3, g, tcA N.ts⟩) (ls := tcs N.ts) (e' := [.agg [.d (.int N.k), .d (.int N.p), .d (.int N.n), .d (tens N.ts), .own 1 0 N.os.length]]) (σ' := [none, some ⟨1, g', iv N.os⟩]) (Nat.le_refl _) rfl cellsD_tcA ?_ ?_)
  (Wk.freeze 1 (R := ⟨1, g', iv N.os⟩) (ls := dv N.os) (Nat.zero_le _) rfl cellsD_iv ?_ ?_)
 ·simp only [mapL, mapA, ownN, fzG, if_true, List.drop_zero, h3, tens, Nat.zero_add, Nat.reduceEqDiff, if_false, Nat.one_ne_zero]
 ·simp only [frz, List.set_cons_zero, List.map_cons, List.map_nil, Option.map_none, Option.map_some]
  rw [hm _ fun x => rfl]
 ·simp only [mapL, mapA, netA, fzG, if_true, List.drop_zero, h1, ints, tens]
 ·simp only [frz, List.set_cons_succ, List.set_cons_zero, List.map_cons, List.map_nil, Option.map_none]
theorem Does.fzN {P : Program} {f : FuncId} {args : List AV} {N : Net} {g g' : Bool} (h : Does P f args [] (ownN 0 N) [some ⟨3, g, tcA N.ts⟩, some ⟨1, g', iv N.os⟩]) : Does P f args [] (netA N) [] :=
 Does.noneS2 (Does.wk0 h wk_fzN)
theorem Does.fzS {P : Program} {f : FuncId} {args : List AV} {g : Bool} {n : Nat} {F : List Int} (h : Does P f args [] (.own 0 0 n) [some ⟨2, g, iv F⟩]) (hl : F.length = n * 2) : Does P f args [] (.d (stp n F)) [] := Does.fz h cellsD_iv (by rw [dv_len, hl])
theorem MakeNetwork_d {b : List Int} (hb : CodeOk b) {m : Nat} (hm : m ≤ 1000) {kk pp nn most : Int} (hr : ringOk ⟨kk, pp, nn⟩ = true) (hmo : 0 ≤ most ∧ most ≤ 11) :
  ∃ N : Net, (Gen6 N ∧ (N.ts.length : Int) ≤ most ∧ N.rg = ⟨kk, pp, nn⟩) ∧ Does Try.prog 5 [.d (bytes b), .d (.int m), ringA kk pp nn, .d (.int most)] [] (netA N) [] := by
 obtain ⟨i, h, hi, hd⟩ := l45At_d hb hm
 have hwb := width_bd hr
 obtain ⟨wd, hw⟩ := Int.eq_ofNat_of_zero_le (a := width ⟨kk, pp, nn⟩) (by omega)
 obtain ⟨g1, g2⟩ := gNet_6 (b := b) (c := ⟨i, h⟩) hr hw hmo
 have hx := l12Net_d hb (c := ⟨i, h⟩) hi hr hw (by omega) hmo
 refine ⟨_, ⟨g1, g2, rfl⟩, ?_⟩
 generalize gNet b ⟨kk, pp, nn⟩ wd most ⟨i, h⟩ = T at hx
 obtain ⟨c2, N⟩ := T
 simp only at hx ⊢
 refine Does.fzN (g := true) (g' := true) ?_
 unfold ownN at hx ⊢
 unfold curS curR curC at hx
 unfold curR curC at hd
 (refine spec_of (by kernel_rfl) Try.func5 k_spec_MakeNetwork (fnOk (nb rfl) ?_); unfold C_spec_MakeNetwork)
 (simp only [Nat.reduceSub, List.length_cons, List.length_nil, Nat.reduceAdd, ch_init1, ch_init2, ch_init3, ch_init4, ch_init5, ch_init6, ch_init7, ch_init8]; try simp only [ch_rep]); (simp only [go_sem, seval, reduceCtorEq, List.replicate])
 (refine gi_call (hd) ?_ ?_ ?_; (focus (simp only [go_sem, seval, reduceCtorEq]; done)); (first | rfl | (focus (simp only [go_sem]; done))))
 simp only [go_sem, seval, reduceCtorEq]
 (refine ti_callcg [2] [] false (of_decide_eq_true rfl) ?_ _ ?_ (hx) ?_ ?_; (focus (simp only [go_sem, seval, reduceCtorEq]; done)); (focus (simp only [go_sem, seval, reduceCtorEq]; done)); (focus (first | rfl | (simp only [go_sem, seval, reduceCtorEq]; done))))
 simp (disch := omega) only [go_sem, seval, reduceCtorEq]
 (refine FnEnd.mk (nb rfl) rfl (of_decide_eq_true rfl) ?_ ?_ <;> try simp only [go_sem, seval, reduceCtorEq])
theorem order_i64 {N : Net} {n : Nat} {F : List Int} (h : orderOk N n F = true) (hl : F.length = n * 2) : ∀ x ∈ F, I64 x := by
 obtain ⟨h1, h2, h3⟩ := orderOk_iff.1 h
 have hn := (netOk_iff.1 h1).2.1
 have hok := osInit_ok (netOk_ax h1)
 intro x hx
 obtain ⟨j, hj, rfl⟩ := List.getElem_of_mem hx
 have hk : j / 2 < n := by omega
 have hf := ordTo_fol h3 hk
 have ho := ordTo_ok hok (j / 2) (ordTo_down h3 (Nat.le_of_lt hk))
 obtain ⟨a, b, e1, e2, m1, m2, _⟩ := followB_nat hf
 have b1 := (nums_mem.1 m1).1
 have b2 := (nums_mem.1 m2).1
 rw [ho.n] at b1 b2
 unfold I64
 rcases Nat.mod_two_eq_zero_or_one j with e | e
 ·have : F[j] = a := by rw [← e1, show j / 2 * 2 = j by omega, getD_of hj]
  omega
 ·have : F[j] = b := by rw [← e2, show j / 2 * 2 + 1 = j by omega, getD_of hj]
  omega
theorem MakeOrder_d {b : List Int} (hb : CodeOk b) {m : Nat} (hm : m ≤ 1000) {N : Net} (hN : Gen6 N) :
  ∃ F : List Int, (orderOk N (N.ts.length - 1) F = true ∧ StpSz 1048576 (N.ts.length - 1) F) ∧ Does Try.prog 6 [.d (bytes b), .d (.int m), netA N] [] (.d (stp (N.ts.length - 1) F)) [] := by
 obtain ⟨i, h, hi, hd⟩ := l45At_d hb hm
 have hn := (netOk_iff.1 hN.ok).2.1
 have hv := gOrd_valid hN.ok b ⟨i, h⟩
 have hl := (gOrd_len (b := b) (m := N.ts.length) (c := ⟨i, h⟩) (N.ts.length - 1) (Nat.le_refl _)).2
 have hx := l17Order_d hb (c := ⟨i, h⟩) hi (m := N.ts.length) (by omega)
 refine ⟨_, ⟨hv, hl, by omega, ?_⟩, ?_⟩
 ·exact order_i64 hv hl
 generalize gOrd b N.ts.length ⟨i, h⟩ (N.ts.length - 1) = T at hx hl
 obtain ⟨c2, th, F⟩ := T
 simp only at hx hl ⊢
 refine Does.fzS (g := true) ?_ hl
 unfold curS curR curC at hx
 unfold curR curC at hd
 (refine spec_of (by kernel_rfl) Try.func6 k_spec_MakeOrder (fnOk (nb rfl) ?_); unfold C_spec_MakeOrder)
 (simp only [Nat.reduceSub, List.length_cons, List.length_nil, Nat.reduceAdd, ch_init1, ch_init2, ch_init3, ch_init4, ch_init5, ch_init6, ch_init7, ch_init8]; try simp only [ch_rep]); (simp only [go_sem, seval, reduceCtorEq, List.replicate])
 (refine gi_call (hd) ?_ ?_ ?_; (focus (simp only [go_sem, seval, reduceCtorEq]; done)); (first | rfl | (focus (simp only [go_sem]; done))))
 simp only [go_sem, seval, reduceCtorEq]
 (refine ti_callcg [1] [] false (of_decide_eq_true rfl) ?_ _ ?_ (hx) ?_ ?_; (focus (simp only [go_sem, seval, reduceCtorEq]; done)); (focus (simp only [go_sem, seval, reduceCtorEq]; done)); (focus (first | rfl | (simp only [go_sem, seval, reduceCtorEq]; done))))
 simp (disch := omega) only [go_sem, seval, reduceCtorEq]
 (refine FnEnd.mk (nb rfl) rfl (of_decide_eq_true rfl) ?_ ?_ <;> try simp only [go_sem, seval, reduceCtorEq])
end Go.Proofs.Ytmkdphmjgfbjaaa
