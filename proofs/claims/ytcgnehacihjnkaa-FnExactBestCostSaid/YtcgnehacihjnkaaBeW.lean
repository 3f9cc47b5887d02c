/-
  Contracts: the best width over sets of closed labels. No condition.
-/
import Derived.Test.YtcgnehacihjnkaaMgBestCostA
import Derived.Test.YtcgnehacihjnkaaPlW
import Derived.Test.YtcgnehacihjnkaaEliB
namespace Go.Proofs.Ytcgnehacihjnkaa
open Go.RowKit Go.Lift Plain
set_option linter.unusedSimpArgs false
set_option linter.unusedVariables false
set_option maxRecDepth 100000

/-! ### Words -/
theorem wrapN {n : Nat} (h : n < 9223372036854775808) : IntKind.i64.wrap (n : Int) = n := by
  simp (disch := omega) only [go_sem, seval, reduceCtorEq]
theorem bit_eq {s k : Nat} (h : s < 9223372036854775808) : IntKind.i64.wrap (((BitVec.ofInt 64 ((s : Int).fdiv (2 ^ k)) &&& 1#64).toNat : Nat) : Int) = if bt s k = true then 1 else 0 := by
  have e1 : (s : Int).fdiv (2 ^ k) = ((s / 2 ^ k : Nat) : Int) := by
    have hp : (0 : Int) ≤ 2 ^ k := Int.pow_nonneg (by omega)
    rw [Int.fdiv_eq_ediv_of_nonneg _ hp, Int.natCast_ediv]
    simp
  have hd := Nat.div_le_self s (2 ^ k)
  have hm : s / 2 ^ k % 2 ^ 64 = s / 2 ^ k := Nat.mod_eq_of_lt (by omega)
  rw [e1, BitVec.ofInt_natCast, BitVec.toNat_and, BitVec.toNat_ofNat, BitVec.toNat_ofNat, hm, show 1 % 2 ^ 64 = 1 from rfl, Nat.and_one_is_mod]
  unfold bt
  rcases Nat.mod_two_eq_zero_or_one (s / 2 ^ k) with e | e
  · rw [e]; rfl
  · rw [e]; rfl
theorem bit_one {s k : Nat} (h : s < 9223372036854775808) : (IntKind.i64.wrap (((BitVec.ofInt 64 ((s : Int).fdiv (2 ^ k)) &&& 1#64).toNat : Nat) : Int) == 1) = bt s k := by
  rw [bit_eq h]
  cases bt s k <;> rfl
theorem bit_nil {s k : Nat} (h : s < 9223372036854775808) : (IntKind.i64.wrap (((BitVec.ofInt 64 ((s : Int).fdiv (2 ^ k)) &&& 1#64).toNat : Nat) : Int) == 0) = !bt s k := by
  rw [bit_eq h]
  cases bt s k <;> rfl
theorem or_add {s k : Nat} (h : bt s k = false) : s ||| 2 ^ k = s + 2 ^ k := by
  have hp : 0 < 2 ^ k := Nat.two_pow_pos k
  simp only [bt, decide_eq_false_iff_not] at h
  have hdm := Nat.div_add_mod s (2 ^ k)
  have hb : s % 2 ^ k < 2 ^ k := Nat.mod_lt _ hp
  generalize s % 2 ^ k = b at *
  generalize hq : s / 2 ^ k = q at *
  obtain ⟨a, rfl⟩ : ∃ a, q = 2 * a := ⟨q / 2, by omega⟩
  have hs2 : 2 ^ (k + 1) = 2 ^ k * 2 := Nat.pow_succ ..
  have e1 : s = 2 ^ (k + 1) * a + b := by rw [hs2, Nat.mul_assoc]; exact hdm.symm
  have h1 := Nat.two_pow_add_eq_or_of_lt (i := k + 1) (b := b) (by omega) a
  have h2 := Nat.two_pow_add_eq_or_of_lt (i := k) (b := b) hb 1
  have h3 := Nat.two_pow_add_eq_or_of_lt (i := k + 1) (b := 2 ^ k * 1 + b) (by omega) a
  rw [e1, h1, Nat.or_assoc, Nat.or_comm b, ← Nat.mul_one (2 ^ k), ← h2, ← h3]
  have h1' := h1
  omega
theorem or_eq {s k : Nat} (h : bt s k = false) (hs : s < 1024) (hk : k < 10) : IntKind.i64.wrap (((BitVec.ofInt 64 (s : Int) ||| BitVec.ofInt 64 ((2 ^ k : Nat) : Int)).toNat : Nat) : Int) = ((s + 2 ^ k : Nat) : Int) := by
  have hp : 2 ^ k < 2 ^ 10 := Nat.pow_lt_pow_right (by omega) hk
  rw [BitVec.ofInt_natCast, BitVec.ofInt_natCast, BitVec.toNat_or, BitVec.toNat_ofNat, BitVec.toNat_ofNat, Nat.mod_eq_of_lt (by omega), Nat.mod_eq_of_lt (by omega), or_add h]
  exact wrapN (by omega)
theorem add_lt {s k c : Nat} (h : bt s k = false) (hs : s < 2 ^ c) (hk : k < c) : s + 2 ^ k < 2 ^ c := by
  rw [← or_add h]
  exact Nat.or_lt_two_pow hs (Nat.pow_lt_pow_right (by omega) hk)
theorem shl_eq {k : Nat} (h : k ≤ 10) : IntKind.i64.wrap (1 * 2 ^ k) = ((2 ^ k : Nat) : Int) := by
  have hp : 2 ^ k ≤ 2 ^ 10 := Nat.pow_le_pow_right (by omega) h
  have e : (1 : Int) * 2 ^ k = ((2 ^ k : Nat) : Int) := by simp
  rw [e]
  exact wrapN (by omega)
/-! ### By the reference -/
theorem l21Width_d {N : Net} {C : List Int} {s : Nat} {x : Int} (h : NSz 1048576 N) (hax : axOks N.ts) (h12 : N.ts.length ≤ 12) (hC : C.length ≤ 10) (hs : s < 1024) :
    Does Try.prog 89 [netA N, .d (ints C), .d (.int (s : Int)), .d (.int x)] [] (.d (.int ((bucket (elS (labL N.ts) C s C.length) x).length : Int))) [] := by
  have hlo := labL_ok hax
  have hll := labL_len N.ts
  have hz0 : elS (labL N.ts) C s 0 = labL N.ts := rfl
  (refine spec_of (by kernel_rfl) Try.func89 k_spec_l21Width (fnOk (Nat.le_of_ble_eq_true rfl) ?_); unfold C_spec_l21Width)
  (simp only [Nat.reduceSub, List.length_cons, List.length_nil, Nat.reduceAdd, ch_init1, ch_init2, ch_init3, ch_init4, ch_init5, ch_init6, ch_init7, ch_init8]; try simp only [ch_rep]); (simp only [go_sem, seval, reduceCtorEq, List.replicate])
  (refine ti_call (l21Lists_d h) ?_ ?_ ?_; (focus (simp only [go_sem, seval, reduceCtorEq]; done)); (first | rfl | (focus (simp only [go_sem]; done))))
  simp only [go_sem, seval, reduceCtorEq]
  refine wpN_lp (C.length) [false, false, false, false, false, false, false, false, false, false, true, true, true, true, false, false, false, false, false, false, false, true, true, true, true, true, true, true, true, true, true, true, true, true, true, true, true, true, true, true, true, true, true, false, false, false, false, false, false, false, false] (fun k => [(9, .d (lists (elS (labL N.ts) C s k))), (20, .d (.int k))]) (fun k => []) (fun _ => by (simp only [go_sem, seval, reduceCtorEq, dropF_ch, dropF_cons, dropF_nil, cut, cond_true, cond_false]); first | done | rfl) (fun _ => by (simp only [go_sem, seval, reduceCtorEq, cut]); first | done | rfl) (Nat.le_of_ble_eq_true rfl) (by first | (simp only [go_sem, seval, reduceCtorEq, dropF_ch, dropF_cons, dropF_nil, cut, cond_true, cond_false, Int.natCast_zero, Int.natCast_add, Int.natCast_one, hz0]; done) | rfl | (simp only [go_sem, seval, reduceCtorEq, dropF_ch, dropF_cons, dropF_nil, cut, cond_true, cond_false, Int.natCast_zero, Int.natCast_add, Int.natCast_one, hz0]; rfl)) (by first | (simp only [go_sem, seval, reduceCtorEq, dropF_ch, dropF_cons, dropF_nil, cut, cond_true, cond_false, Int.natCast_zero, Int.natCast_add, Int.natCast_one, hz0]; done) | rfl | (simp only [go_sem, seval, reduceCtorEq, dropF_ch, dropF_cons, dropF_nil, cut, cond_true, cond_false, Int.natCast_zero, Int.natCast_add, Int.natCast_one, hz0]; rfl)) fun k hk => ?_
  unfold L0_spec_l21Width
  have hel := elS_len (L := labL N.ts) (C := C) (s := s) k
  have heo := elS_ok (C := C) (s := s) hlo k
  by_cases hlt : k < C.length
  · have d1 : (k : Int) < C.length := by omega
    have g : C[k]? = some C[k] := List.getElem?_eq_getElem hlt
    have gd : C.getD k 0 = C[k] := getD_of hlt
    have hmin : min k 64 = k := by omega
    have hbl := bucket_len heo C[k]
    have hrl := restTo_len (L := elS (labL N.ts) C s k) (x := C[k]) (k := (elS (labL N.ts) C s k).length)
    have hbo := bit_one (s := s) (k := k) (by omega)
    simp (disch := omega) only [go_sem, seval, reduceCtorEq, d1, g, hmin, hbo]
    (repeat (refine And.intro (by omega) ?_))
    cases hb : bt s k
    · have he1 : elS (labL N.ts) C s (k + 1) = elS (labL N.ts) C s k := by rw [elS, if_neg (by rw [hb]; simp)]
      simp (disch := omega) only [go_sem, seval, reduceCtorEq, hb]
      (refine Next.drop [false, false, false, false, false, false, false, false, false, false, true, true, true, true, false, false, false, false, false, false, false, true, true, true, true, true, true, true, true, true, true, true, true, true, true, true, true, true, true, true, true, true, true, false, false, false, false, false, false, false, false] (by omega) (Nat.le_of_ble_eq_true rfl) ?_ ?_ <;> first | (simp only [go_sem, seval, reduceCtorEq, dropF_ch, dropF_cons, dropF_nil, cut, cond_true, cond_false, Int.natCast_zero, Int.natCast_add, Int.natCast_one, he1]; done) | rfl | (simp only [go_sem, seval, reduceCtorEq, dropF_ch, dropF_cons, dropF_nil, cut, cond_true, cond_false, Int.natCast_zero, Int.natCast_add, Int.natCast_one, he1]; rfl) | skip)
    · have he1 : elS (labL N.ts) C s (k + 1) = elimL (elS (labL N.ts) C s k) C[k] := by rw [elS, if_pos hb, gd]
      simp (disch := omega) only [go_sem, seval, reduceCtorEq, hb]
      (refine ti_call (l21Bucket_d (L := elS (labL N.ts) C s k) (x := C[k]) heo (by omega)) ?_ ?_ ?_; (focus (simp only [go_sem, seval, reduceCtorEq]; done)); (first | rfl | (focus (simp only [go_sem]; done))))
      simp (disch := omega) only [go_sem, seval, reduceCtorEq]
      (refine ti_call (l21Without_d (xs := bucket (elS (labL N.ts) C s k) C[k]) (x := C[k]) (by omega)) ?_ ?_ ?_; (focus (simp only [go_sem, seval, reduceCtorEq]; done)); (first | rfl | (focus (simp only [go_sem]; done))))
      simp (disch := omega) only [go_sem, seval, reduceCtorEq]
      (repeat (refine And.intro (by omega) ?_))
      have hT : (ldv (restTo (elS (labL N.ts) C s k) C[k] (elS (labL N.ts) C s k).length ++ [(bucket (elS (labL N.ts) C s k) C[k]).filter (· != C[k])])).take ((restTo (elS (labL N.ts) C s k) C[k] (elS (labL N.ts) C s k).length).length + 1) = ldv (restTo (elS (labL N.ts) C s k) C[k] (elS (labL N.ts) C s k).length ++ [(bucket (elS (labL N.ts) C s k) C[k]).filter (· != C[k])]) := List.take_of_length_le (by simp [ldv])
      (refine Next.wk (Wk.freeze 3 (Nat.le_of_ble_eq_true rfl) rfl (cellsD_iv) rfl rfl) ?_); (simp only [go_sem, seval, reduceCtorEq, mapL_two])
      (refine Next.wk (Wk.freeze 2 (Nat.le_of_ble_eq_true rfl) rfl (cellsD_lsA) rfl rfl) ?_); (simp only [go_sem, seval, reduceCtorEq, mapL_two, hT])
      (refine Next.drop [false, false, false, false, false, false, false, false, false, false, true, true, true, true, false, false, false, false, false, false, false, true, true, true, true, true, true, true, true, true, true, true, true, true, true, true, true, true, true, true, true, true, true, false, false, false, false, false, false, false, false] (by omega) (Nat.le_of_ble_eq_true rfl) ?_ ?_ <;> first | (simp only [go_sem, seval, reduceCtorEq, dropF_ch, dropF_cons, dropF_nil, cut, cond_true, cond_false, Int.natCast_zero, Int.natCast_add, Int.natCast_one, he1, elimL, List.length_append]; done) | rfl | (simp only [go_sem, seval, reduceCtorEq, dropF_ch, dropF_cons, dropF_nil, cut, cond_true, cond_false, Int.natCast_zero, Int.natCast_add, Int.natCast_one, he1, elimL, List.length_append]; rfl) | skip)
  · have d1 : ¬ (k : Int) < C.length := by omega
    obtain rfl : k = C.length := by omega
    simp (disch := omega) only [go_sem, seval, reduceCtorEq, d1]
    (refine ti_call (l21Bucket_d (L := elS (labL N.ts) C s C.length) (x := x) heo (by omega)) ?_ ?_ ?_; (focus (simp only [go_sem, seval, reduceCtorEq]; done)); (first | rfl | (focus (simp only [go_sem]; done))))
    simp (disch := omega) only [go_sem, seval, reduceCtorEq]
    (refine FnEnd.mk (Nat.le_of_ble_eq_true rfl) rfl (of_decide_eq_true rfl) ?_ ?_ <;> try simp only [go_sem, seval, reduceCtorEq])
def ini (M : Int) (k j : Nat) : Int := if j = 0 then 0 else if j < k then M else 0
theorem ini_zero {n : Nat} {M : Int} : tab n (ini M 0) = tab n fun _ => 0 := tab_congr fun j _ => by simp [ini]
def spo (W : Nat → Nat → Int) (c : Nat) (cap : Int) (s j : Nat) : Int := if j < s + 1 then best W c cap j else 0
def spi (W : Nat → Nat → Int) (c : Nat) (cap : Int) (S k j : Nat) : Int := if j < S then best W c cap j else if j = S then lst (bt S) (bval W c cap S) cap k else 0
theorem bt_lt {c i j : Nat} (h : bt j i = true) (hj : j < 2 ^ c) : i < c := by
  by_cases e : i < c
  · exact e
  · have := Nat.pow_le_pow_right (n := 2) (by omega) (show c ≤ i by omega)
    have := bt_ge h
    omega
noncomputable def bwN (N : Net) : Int := if netOk N = true ∧ (closedL N).length ≤ 10 then best (widS (labL N.ts) (closedL N)) (closedL N).length ((labelsL N).length + 1) (2 ^ (closedL N).length - 1) else -1
theorem bwN_no {N : Net} (h : ¬ (netOk N = true ∧ (closedL N).length ≤ 10)) : bwN N = -1 := by rw [bwN, if_neg h]
theorem widN_le {N : Net} (hok : netOk N = true) (s i : Nat) : 0 ≤ widS (labL N.ts) (closedL N) s i ∧ widS (labL N.ts) (closedL N) s i ≤ (labelsL N).length := by
  refine widS_le (labL_ok (netOk_ax hok)) (fun l hl x hx => ?_) i
  obtain ⟨t, ht, rfl⟩ := List.mem_map.1 (show l ∈ N.ts.map Ten.labels from hl)
  exact (labelsL_in hok).2 ⟨t, ht, hx⟩
theorem labelsL_100 {N : Net} (hok : netOk N = true) : (labelsL N).length ≤ 100 := by
  rw [labelsL, if_pos hok]
  exact pickTo_len _ _
set_option maxHeartbeats 1600000 in
theorem iBestWidth_d {N : Net} (h : NSz 1048576 N) : Does Try.prog 37 [netA N] [] (.d (.int (bwN N))) [] := by
  have hcl := (closedL_sz N).len
  (refine spec_of (by kernel_rfl) Try.func37 k_impl_BestWidth (fnOk (Nat.le_of_ble_eq_true rfl) ?_); unfold C_impl_BestWidth)
  (simp only [Nat.reduceSub, List.length_cons, List.length_nil, Nat.reduceAdd, ch_init1, ch_init2, ch_init3, ch_init4, ch_init5, ch_init6, ch_init7, ch_init8]; try simp only [ch_rep]); (simp only [go_sem, seval, reduceCtorEq, List.replicate])
  (refine ti_call (iClosedLabels_d h) ?_ ?_ ?_; (focus (simp only [go_sem, seval, reduceCtorEq]; done)); (first | rfl | (focus (simp only [go_sem]; done))))
  simp only [go_sem, seval, reduceCtorEq]
  (refine ti_call (iNetworkOk_d h) ?_ ?_ ?_; (focus (simp only [go_sem, seval, reduceCtorEq]; done)); (first | rfl | (focus (simp only [go_sem]; done))))
  cases hok : netOk N
  · have e := bwN_no (N := N) (by simp [hok])
    simp only [go_sem, seval, reduceCtorEq, hok, e]
    (refine FnEnd.mk (Nat.le_of_ble_eq_true rfl) rfl (of_decide_eq_true rfl) ?_ ?_ <;> try simp only [go_sem, seval, reduceCtorEq])
  by_cases b1 : ((closedL N).length : Int) > 10
  · have e := bwN_no (N := N) (by omega)
    simp only [go_sem, seval, reduceCtorEq, hok, b1, e]
    (refine FnEnd.mk (Nat.le_of_ble_eq_true rfl) rfl (of_decide_eq_true rfl) ?_ ?_ <;> try simp only [go_sem, seval, reduceCtorEq])
  have hW := widN_le hok
  have h100 := labelsL_100 hok
  have e : bwN N = best (widS (labL N.ts) (closedL N)) (closedL N).length ((labelsL N).length + 1) (2 ^ (closedL N).length - 1) := by rw [bwN, if_pos ⟨hok, by omega⟩]
  have h12 := (netOk_iff.1 hok).2.1
  have hlo := labL_ok (netOk_ax hok)
  have hll := labL_len N.ts
  simp only [go_sem, seval, reduceCtorEq, hok, b1]
  generalize hC : closedL N = C at *
  generalize hM : ((labelsL N).length : Int) + 1 = M at *
  generalize hWd : widS (labL N.ts) C = W at *
  have hmin : min C.length 64 = C.length := by omega
  have hsh := shl_eq (k := C.length) (by omega)
  simp (disch := omega) only [go_sem, seval, reduceCtorEq, hmin, hsh]
  have hp10 : 2 ^ C.length ≤ 2 ^ 10 := Nat.pow_le_pow_right (by omega) (by omega)
  have hp1 := Nat.two_pow_pos C.length
  have hbl : ∀ {i j : Nat}, bt j i = true → j < 2 ^ C.length → i < C.length := fun h hj => bt_lt h hj
  have hal : ∀ {s k : Nat}, bt s k = false → s < 2 ^ C.length → k < C.length → s + 2 ^ k < 2 ^ C.length := fun h hs hk => add_lt h hs hk
  generalize hn : 2 ^ C.length = n at *
  have hr0 : List.replicate n (0 : Int) = tab n fun _ => 0 := tab_rep n
  refine And.intro ⟨by omega, by omega⟩ ?_
  simp only [hr0]
  have hn1 : (n : Int) - 1 = ((n - 1 : Nat) : Int) := by omega
  refine wpN_lp (n) [false, false, false, false, false, true, false, false, false, false, false, false, false, false, false, false, false, false, false, false, false, false, false, false, false, false, false, false, false, false, true, true, true, true, true, true, true, true, true, true, true, true, false, false, false, false, false, false, false, false, false, false, false, false, false, false, false, false, false, false, false, false, false, false, false, false, false, false, false, false, false, false, false, false, false, false, false, false, false, false, false, false, false, false, false, false, false, false, false, false, false, false, false, false, false, false, false, false, false, false, false, false, false, false, false, false, false, false, false] (fun k => [(29, .d (.int k))]) (fun k => [(2, iv (tab n (ini M k)))]) (fun _ => by (simp only [go_sem, seval, reduceCtorEq, dropF_ch, dropF_cons, dropF_nil, cut, cond_true, cond_false]); first | done | rfl) (fun _ => by (simp only [go_sem, seval, reduceCtorEq, cut]); first | done | rfl) (Nat.le_of_ble_eq_true rfl) (by first | (simp only [go_sem, seval, reduceCtorEq, dropF_ch, dropF_cons, dropF_nil, cut, cond_true, cond_false, Int.natCast_zero, Int.natCast_add, Int.natCast_one, ini_zero]; done) | rfl | (simp only [go_sem, seval, reduceCtorEq, dropF_ch, dropF_cons, dropF_nil, cut, cond_true, cond_false, Int.natCast_zero, Int.natCast_add, Int.natCast_one, ini_zero]; rfl)) (by first | (simp only [go_sem, seval, reduceCtorEq, dropF_ch, dropF_cons, dropF_nil, cut, cond_true, cond_false, Int.natCast_zero, Int.natCast_add, Int.natCast_one, ini_zero]; done) | rfl | (simp only [go_sem, seval, reduceCtorEq, dropF_ch, dropF_cons, dropF_nil, cut, cond_true, cond_false, Int.natCast_zero, Int.natCast_add, Int.natCast_one, ini_zero]; rfl)) fun k hk => ?_
  unfold L3_impl_BestWidth
  have htl := tab_len n (ini M k)
  by_cases hlt : k < n
  · have d1 : (k : Int) < n := by omega
    by_cases hk0 : k = 0
    · have hnx : tab n (ini M (k + 1)) = tab n (ini M k) := tab_congr fun j _ => by
        unfold ini
        by_cases e : j = 0
        · rw [if_pos e, if_pos e]
        · rw [if_neg e, if_neg e, if_neg (by omega), if_neg (by omega)]
      have d2 : ¬ (k : Int) > 0 := by omega
      simp (disch := omega) only [go_sem, seval, reduceCtorEq, d1, d2]
      (refine Next.drop [false, false, false, false, false, true, false, false, false, false, false, false, false, false, false, false, false, false, false, false, false, false, false, false, false, false, false, false, false, false, true, true, true, true, true, true, true, true, true, true, true, true, false, false, false, false, false, false, false, false, false, false, false, false, false, false, false, false, false, false, false, false, false, false, false, false, false, false, false, false, false, false, false, false, false, false, false, false, false, false, false, false, false, false, false, false, false, false, false, false, false, false, false, false, false, false, false, false, false, false, false, false, false, false, false, false, false, false, false] (by omega) (Nat.le_of_ble_eq_true rfl) ?_ ?_ <;> first | (simp only [go_sem, seval, reduceCtorEq, dropF_ch, dropF_cons, dropF_nil, cut, cond_true, cond_false, Int.natCast_zero, Int.natCast_add, Int.natCast_one, hnx]; done) | rfl | (simp only [go_sem, seval, reduceCtorEq, dropF_ch, dropF_cons, dropF_nil, cut, cond_true, cond_false, Int.natCast_zero, Int.natCast_add, Int.natCast_one, hnx]; rfl) | skip)
    · have hnx : (tab n (ini M k)).take k ++ [M] ++ (tab n (ini M k)).drop (k + 1) = tab n (ini M (k + 1)) := tab_put hlt fun i hi => by unfold ini; split <;> (try split) <;> (try split) <;> (try split) <;> omega
      have d2 : (k : Int) > 0 := by omega
      simp (disch := omega) only [go_sem, seval, reduceCtorEq, d1, d2]
      (refine ti_call (iLabelsOf_d h) ?_ ?_ ?_; (focus (simp only [go_sem, seval, reduceCtorEq]; done)); (first | rfl | (focus (simp only [go_sem]; done))))
      simp (disch := omega) only [go_sem, seval, reduceCtorEq, hM]
      (repeat (refine And.intro (by omega) ?_))
      (refine Next.drop [false, false, false, false, false, true, false, false, false, false, false, false, false, false, false, false, false, false, false, false, false, false, false, false, false, false, false, false, false, false, true, true, true, true, true, true, true, true, true, true, true, true, false, false, false, false, false, false, false, false, false, false, false, false, false, false, false, false, false, false, false, false, false, false, false, false, false, false, false, false, false, false, false, false, false, false, false, false, false, false, false, false, false, false, false, false, false, false, false, false, false, false, false, false, false, false, false, false, false, false, false, false, false, false, false, false, false, false, false] (by omega) (Nat.le_of_ble_eq_true rfl) ?_ ?_ <;> first | (simp only [go_sem, seval, reduceCtorEq, dropF_ch, dropF_cons, dropF_nil, cut, cond_true, cond_false, Int.natCast_zero, Int.natCast_add, Int.natCast_one, hnx]; done) | rfl | (simp only [go_sem, seval, reduceCtorEq, dropF_ch, dropF_cons, dropF_nil, cut, cond_true, cond_false, Int.natCast_zero, Int.natCast_add, Int.natCast_one, hnx]; rfl) | skip)
  have d1 : ¬ (k : Int) < n := by omega
  obtain rfl : k = n := by omega
  have hini : tab k (ini M k) = tab k (bfw W C.length M 0 0) := tab_congr fun j hj => by rw [bfw_zero]; unfold ini; split <;> simp <;> omega
  simp (disch := omega) only [go_sem, seval, reduceCtorEq, d1, hini]
  refine wpN_lp (k) [false, false, false, false, false, false, true, true, true, true, true, true, true, false, false, false, false, false, false, false, false, false, false, false, false, false, false, false, false, false, false, false, false, false, false, false, false, false, false, false, false, false, false, false, false, true, true, true, true, true, true, true, true, true, true, true, true, true, true, true, true, true, true, true, true, true, true, true, true, true, true, true, true, true, true, true, true, true, true, true, true, true, true, true, true, true, true, true, true, true, true, true, true, true, true, true, true, true, true, true, true, true, true, false, false, false, false, false, false] (fun s => [(44, .d (.int s))]) (fun s => [(2, iv (tab k (bfw W C.length M s 0)))]) (fun _ => by (simp only [go_sem, seval, reduceCtorEq, dropF_ch, dropF_cons, dropF_nil, cut, cond_true, cond_false]); first | done | rfl) (fun _ => by (simp only [go_sem, seval, reduceCtorEq, cut]); first | done | rfl) (Nat.le_of_ble_eq_true rfl) (by first | (simp only [go_sem, seval, reduceCtorEq, dropF_ch, dropF_cons, dropF_nil, cut, cond_true, cond_false, Int.natCast_zero, Int.natCast_add, Int.natCast_one]; done) | rfl | (simp only [go_sem, seval, reduceCtorEq, dropF_ch, dropF_cons, dropF_nil, cut, cond_true, cond_false, Int.natCast_zero, Int.natCast_add, Int.natCast_one]; rfl)) (by first | (simp only [go_sem, seval, reduceCtorEq, dropF_ch, dropF_cons, dropF_nil, cut, cond_true, cond_false, Int.natCast_zero, Int.natCast_add, Int.natCast_one]; done) | rfl | (simp only [go_sem, seval, reduceCtorEq, dropF_ch, dropF_cons, dropF_nil, cut, cond_true, cond_false, Int.natCast_zero, Int.natCast_add, Int.natCast_one]; rfl)) fun s hs => ?_
  unfold L2_impl_BestWidth
  by_cases hlt : s < k
  · have d1 : (s : Int) < k := by omega
    have hz0 : elS (labL N.ts) C s 0 = labL N.ts := rfl
    simp (disch := omega) only [go_sem, seval, reduceCtorEq, d1]
    (refine ti_call (labelLists_d h) ?_ ?_ ?_; (focus (simp only [go_sem, seval, reduceCtorEq]; done)); (first | rfl | (focus (simp only [go_sem]; done))))
    simp (disch := omega) only [go_sem, seval, reduceCtorEq]
    refine wpN_lp (C.length) [false, false, false, false, false, false, false, false, true, true, false, false, false, false, false, false, false, false, false, false, false, false, false, false, false, false, false, false, false, false, false, false, false, false, false, false, false, false, false, false, false, false, false, false, false, false, false, false, false, false, false, false, true, true, true, true, true, true, true, true, true, true, true, true, true, false, false, false, false, false, false, false, false, false, false, false, false, false, false, false, false, false, false, false, false, false, false, false, false, false, false, false, false, false, false, false, false, false, false, false, false, false, false, false, false, false, false, false, false] (fun q => [(7, .d (lists (elS (labL N.ts) C s q))), (51, .d (.int q))]) (fun q => []) (fun _ => by (simp only [go_sem, seval, reduceCtorEq, dropF_ch, dropF_cons, dropF_nil, cut, cond_true, cond_false]); first | done | rfl) (fun _ => by (simp only [go_sem, seval, reduceCtorEq, cut]); first | done | rfl) (Nat.le_of_ble_eq_true rfl) (by first | (simp only [go_sem, seval, reduceCtorEq, dropF_ch, dropF_cons, dropF_nil, cut, cond_true, cond_false, Int.natCast_zero, Int.natCast_add, Int.natCast_one, hz0]; done) | rfl | (simp only [go_sem, seval, reduceCtorEq, dropF_ch, dropF_cons, dropF_nil, cut, cond_true, cond_false, Int.natCast_zero, Int.natCast_add, Int.natCast_one, hz0]; rfl)) (by first | (simp only [go_sem, seval, reduceCtorEq, dropF_ch, dropF_cons, dropF_nil, cut, cond_true, cond_false, Int.natCast_zero, Int.natCast_add, Int.natCast_one, hz0]; done) | rfl | (simp only [go_sem, seval, reduceCtorEq, dropF_ch, dropF_cons, dropF_nil, cut, cond_true, cond_false, Int.natCast_zero, Int.natCast_add, Int.natCast_one, hz0]; rfl)) fun q hq => ?_
    unfold L1_impl_BestWidth
    have hel := elS_len (L := labL N.ts) (C := C) (s := s) q
    have heo := elS_ok (C := C) (s := s) hlo q
    by_cases hlq : q < C.length
    · have d2 : (q : Int) < C.length := by omega
      have g : C[q]? = some C[q] := List.getElem?_eq_getElem hlq
      have gd : C.getD q 0 = C[q] := getD_of hlq
      have hmin : min q 64 = q := by omega
      have hbo := bit_one (s := s) (k := q) (by omega)
      simp (disch := omega) only [go_sem, seval, reduceCtorEq, d2, g, hmin, hbo]
      (repeat (refine And.intro (by omega) ?_))
      cases hb : bt s q
      · have he1 : elS (labL N.ts) C s (q + 1) = elS (labL N.ts) C s q := by rw [elS, if_neg (by rw [hb]; simp)]
        simp (disch := omega) only [go_sem, seval, reduceCtorEq, hb]
        (refine Next.drop [false, false, false, false, false, false, false, false, true, true, false, false, false, false, false, false, false, false, false, false, false, false, false, false, false, false, false, false, false, false, false, false, false, false, false, false, false, false, false, false, false, false, false, false, false, false, false, false, false, false, false, false, true, true, true, true, true, true, true, true, true, true, true, true, true, false, false, false, false, false, false, false, false, false, false, false, false, false, false, false, false, false, false, false, false, false, false, false, false, false, false, false, false, false, false, false, false, false, false, false, false, false, false, false, false, false, false, false, false] (by omega) (Nat.le_of_ble_eq_true rfl) ?_ ?_ <;> first | (simp only [go_sem, seval, reduceCtorEq, dropF_ch, dropF_cons, dropF_nil, cut, cond_true, cond_false, Int.natCast_zero, Int.natCast_add, Int.natCast_one, he1]; done) | rfl | (simp only [go_sem, seval, reduceCtorEq, dropF_ch, dropF_cons, dropF_nil, cut, cond_true, cond_false, Int.natCast_zero, Int.natCast_add, Int.natCast_one, he1]; rfl) | skip)
      · have he1 : elS (labL N.ts) C s (q + 1) = elimL (elS (labL N.ts) C s q) C[q] := by rw [elS, if_pos hb, gd]
        simp (disch := omega) only [go_sem, seval, reduceCtorEq, hb]
        (refine ti_call (eliminateFrom_d (L := elS (labL N.ts) C s q) (x := C[q]) heo (by omega)) ?_ ?_ ?_; (focus (simp only [go_sem, seval, reduceCtorEq]; done)); (first | rfl | (focus (simp only [go_sem]; done))))
        simp (disch := omega) only [go_sem, seval, reduceCtorEq]
        (refine Next.drop [false, false, false, false, false, false, false, false, true, true, false, false, false, false, false, false, false, false, false, false, false, false, false, false, false, false, false, false, false, false, false, false, false, false, false, false, false, false, false, false, false, false, false, false, false, false, false, false, false, false, false, false, true, true, true, true, true, true, true, true, true, true, true, true, true, false, false, false, false, false, false, false, false, false, false, false, false, false, false, false, false, false, false, false, false, false, false, false, false, false, false, false, false, false, false, false, false, false, false, false, false, false, false, false, false, false, false, false, false] (by omega) (Nat.le_of_ble_eq_true rfl) ?_ ?_ <;> first | (simp only [go_sem, seval, reduceCtorEq, dropF_ch, dropF_cons, dropF_nil, cut, cond_true, cond_false, Int.natCast_zero, Int.natCast_add, Int.natCast_one, he1]; done) | rfl | (simp only [go_sem, seval, reduceCtorEq, dropF_ch, dropF_cons, dropF_nil, cut, cond_true, cond_false, Int.natCast_zero, Int.natCast_add, Int.natCast_one, he1]; rfl) | skip)
    have d2 : ¬ (q : Int) < C.length := by omega
    obtain rfl : q = C.length := by omega
    simp (disch := omega) only [go_sem, seval, reduceCtorEq, d2]
    refine wpN_lp (C.length) [false, false, false, false, false, false, false, false, false, false, true, true, true, false, false, false, false, false, false, false, false, false, false, false, false, false, false, false, false, false, false, false, false, false, false, false, false, false, false, false, false, false, false, false, false, false, false, false, false, false, false, false, false, false, false, false, false, false, false, false, false, false, false, false, false, false, false, false, true, true, true, true, true, true, true, true, true, true, true, true, true, true, true, true, true, true, true, true, true, true, true, true, true, true, true, true, true, true, true, true, true, true, false, false, false, false, false, false, false] (fun r => [(67, .d (.int r))]) (fun r => [(2, iv (tab k (bfw W C.length M s r)))]) (fun _ => by (simp only [go_sem, seval, reduceCtorEq, dropF_ch, dropF_cons, dropF_nil, cut, cond_true, cond_false]); first | done | rfl) (fun _ => by (simp only [go_sem, seval, reduceCtorEq, cut]); first | done | rfl) (Nat.le_of_ble_eq_true rfl) (by first | (simp only [go_sem, seval, reduceCtorEq, dropF_ch, dropF_cons, dropF_nil, cut, cond_true, cond_false, Int.natCast_zero, Int.natCast_add, Int.natCast_one]; done) | rfl | (simp only [go_sem, seval, reduceCtorEq, dropF_ch, dropF_cons, dropF_nil, cut, cond_true, cond_false, Int.natCast_zero, Int.natCast_add, Int.natCast_one]; rfl)) (by first | (simp only [go_sem, seval, reduceCtorEq, dropF_ch, dropF_cons, dropF_nil, cut, cond_true, cond_false, Int.natCast_zero, Int.natCast_add, Int.natCast_one]; done) | rfl | (simp only [go_sem, seval, reduceCtorEq, dropF_ch, dropF_cons, dropF_nil, cut, cond_true, cond_false, Int.natCast_zero, Int.natCast_add, Int.natCast_one]; rfl)) fun r hr => ?_
    unfold L0_impl_BestWidth
    have htl := tab_len k (bfw W C.length M s r)
    by_cases hlr : r < C.length
    · have d2 : (r : Int) < C.length := by omega
      have g : C[r]? = some C[r] := List.getElem?_eq_getElem hlr
      have gd : C.getD r 0 = C[r] := getD_of hlr
      have hmin : min r 64 = r := by omega
      have hbo := bit_nil (s := s) (k := r) (by omega)
      simp (disch := omega) only [go_sem, seval, reduceCtorEq, d2, g, hmin, hbo]
      (repeat (refine And.intro (by omega) ?_))
      cases hb : bt s r
      · have hin := hal hb hlt hlr
        have hsr := shl_eq (k := r) (by omega)
        obtain ⟨T, hT⟩ : ∃ T, T = s + 2 ^ r := ⟨_, rfl⟩
        have hor : IntKind.i64.wrap (((BitVec.ofInt 64 (s : Int) ||| BitVec.ofInt 64 ((2 ^ r : Nat) : Int)).toNat : Nat) : Int) = (T : Int) := by rw [or_eq hb (by omega) (show r < 10 by omega), hT]
        rw [← hT] at hin
        have d3 : (T : Int) < k := by omega
        have hWr : ((bucket (elS (labL N.ts) C s C.length) C[r]).length : Int) = W s r := by rw [← hWd]; unfold widS; rw [gd]
        have gS : (tab k (bfw W C.length M s r))[s]? = some (best W C.length M s) := by rw [tab_get _ hlt, bfw_done (Nat.le_refl _)]
        have gT : (tab k (bfw W C.length M s r))[T]? = some (bfw W C.length M s r T) := tab_get _ hin
        have hst : (tab k (bfw W C.length M s r)).take T ++ [min (bfw W C.length M s r T) (max (best W C.length M s) (W s r))] ++ (tab k (bfw W C.length M s r)).drop (T + 1) = tab k (bfw W C.length M s (r + 1)) := tab_put hin fun i hi => by
          rw [bfw_step hb hlr, ← hT]
          split
          · rename_i e0; subst e0; rfl
          · rfl
        simp (disch := omega) only [go_sem, seval, reduceCtorEq, hb, d1, gS]
        (refine gi_call (bucketLabels_d (L := elS (labL N.ts) C s C.length) (x := C[r]) heo (by omega)) ?_ ?_ ?_; (focus (simp only [go_sem, seval, reduceCtorEq]; done)); (first | rfl | (focus (simp only [go_sem]; done))))
        simp (disch := omega) only [go_sem, seval, reduceCtorEq, hmin, hWr, gS, hsr, hor, gT, d3]
        refine And.intro (by omega) ?_
        (refine Next.drop [false, false, false, false, false, false, false, false, false, false, true, true, true, false, false, false, false, false, false, false, false, false, false, false, false, false, false, false, false, false, false, false, false, false, false, false, false, false, false, false, false, false, false, false, false, false, false, false, false, false, false, false, false, false, false, false, false, false, false, false, false, false, false, false, false, false, false, false, true, true, true, true, true, true, true, true, true, true, true, true, true, true, true, true, true, true, true, true, true, true, true, true, true, true, true, true, true, true, true, true, true, true, false, false, false, false, false, false, false] (by omega) (Nat.le_of_ble_eq_true rfl) ?_ ?_ <;> first | (simp only [go_sem, seval, reduceCtorEq, dropF_ch, dropF_cons, dropF_nil, cut, cond_true, cond_false, Int.natCast_zero, Int.natCast_add, Int.natCast_one, hst]; done) | rfl | (simp only [go_sem, seval, reduceCtorEq, dropF_ch, dropF_cons, dropF_nil, cut, cond_true, cond_false, Int.natCast_zero, Int.natCast_add, Int.natCast_one, hst]; rfl) | skip)
      · have hsk : tab k (bfw W C.length M s (r + 1)) = tab k (bfw W C.length M s r) := tab_congr fun j _ => bfw_skip hb
        simp (disch := omega) only [go_sem, seval, reduceCtorEq, hb]
        (refine Next.drop [false, false, false, false, false, false, false, false, false, false, true, true, true, false, false, false, false, false, false, false, false, false, false, false, false, false, false, false, false, false, false, false, false, false, false, false, false, false, false, false, false, false, false, false, false, false, false, false, false, false, false, false, false, false, false, false, false, false, false, false, false, false, false, false, false, false, false, false, true, true, true, true, true, true, true, true, true, true, true, true, true, true, true, true, true, true, true, true, true, true, true, true, true, true, true, true, true, true, true, true, true, true, false, false, false, false, false, false, false] (by omega) (Nat.le_of_ble_eq_true rfl) ?_ ?_ <;> first | (simp only [go_sem, seval, reduceCtorEq, dropF_ch, dropF_cons, dropF_nil, cut, cond_true, cond_false, Int.natCast_zero, Int.natCast_add, Int.natCast_one, hsk]; done) | rfl | (simp only [go_sem, seval, reduceCtorEq, dropF_ch, dropF_cons, dropF_nil, cut, cond_true, cond_false, Int.natCast_zero, Int.natCast_add, Int.natCast_one, hsk]; rfl) | skip)
    have d2 : ¬ (r : Int) < C.length := by omega
    obtain rfl : r = C.length := by omega
    have hnx : tab k (bfw W C.length M s C.length) = tab k (bfw W C.length M (s + 1) 0) := tab_congr fun j hj => bfw_next fun i hb => hbl hb hj
    simp (disch := omega) only [go_sem, seval, reduceCtorEq, d2]
    (refine Next.drop [false, false, false, false, false, false, true, true, true, true, true, true, true, false, false, false, false, false, false, false, false, false, false, false, false, false, false, false, false, false, false, false, false, false, false, false, false, false, false, false, false, false, false, false, false, true, true, true, true, true, true, true, true, true, true, true, true, true, true, true, true, true, true, true, true, true, true, true, true, true, true, true, true, true, true, true, true, true, true, true, true, true, true, true, true, true, true, true, true, true, true, true, true, true, true, true, true, true, true, true, true, true, true, false, false, false, false, false, false] (by omega) (Nat.le_of_ble_eq_true rfl) ?_ ?_ <;> first | (simp only [go_sem, seval, reduceCtorEq, dropF_ch, dropF_cons, dropF_nil, cut, cond_true, cond_false, Int.natCast_zero, Int.natCast_add, Int.natCast_one, hnx]; done) | rfl | (simp only [go_sem, seval, reduceCtorEq, dropF_ch, dropF_cons, dropF_nil, cut, cond_true, cond_false, Int.natCast_zero, Int.natCast_add, Int.natCast_one, hnx]; rfl) | skip)
  have d1 : ¬ (s : Int) < k := by omega
  obtain rfl : s = k := by omega
  have htl := tab_len s (bfw W C.length M s 0)
  have gE : (tab s (bfw W C.length M s 0))[s - 1]? = some (best W C.length M (s - 1)) := by rw [tab_get _ (by omega), bfw_done (by omega)]
  simp (disch := omega) only [go_sem, seval, reduceCtorEq, d1, hn1, gE, e]
  (repeat (refine And.intro (by omega) ?_))
  (refine FnEnd.mk (Nat.le_of_ble_eq_true rfl) rfl (of_decide_eq_true rfl) ?_ ?_ <;> try simp only [go_sem, seval, reduceCtorEq])
set_option maxHeartbeats 1600000 in
theorem sBestWidth_d {N : Net} (h : NSz 1048576 N) : Does Try.prog 36 [netA N] [] (.d (.int (bwN N))) [] := by
  have hcl := (closedL_sz N).len
  (refine spec_of (by kernel_rfl) Try.func36 k_spec_BestWidth (fnOk (Nat.le_of_ble_eq_true rfl) ?_); unfold C_spec_BestWidth)
  (simp only [Nat.reduceSub, List.length_cons, List.length_nil, Nat.reduceAdd, ch_init1, ch_init2, ch_init3, ch_init4, ch_init5, ch_init6, ch_init7, ch_init8]; try simp only [ch_rep]); (simp only [go_sem, seval, reduceCtorEq, List.replicate])
  (refine ti_call (sClosedLabels_d h) ?_ ?_ ?_; (focus (simp only [go_sem, seval, reduceCtorEq]; done)); (first | rfl | (focus (simp only [go_sem]; done))))
  simp only [go_sem, seval, reduceCtorEq]
  (refine ti_call (sNetworkOk_d h) ?_ ?_ ?_; (focus (simp only [go_sem, seval, reduceCtorEq]; done)); (first | rfl | (focus (simp only [go_sem]; done))))
  cases hok : netOk N
  · have e := bwN_no (N := N) (by simp [hok])
    simp only [go_sem, seval, reduceCtorEq, hok, e]
    (refine FnEnd.mk (Nat.le_of_ble_eq_true rfl) rfl (of_decide_eq_true rfl) ?_ ?_ <;> try simp only [go_sem, seval, reduceCtorEq])
  by_cases b1 : ((closedL N).length : Int) > 10
  · have e := bwN_no (N := N) (by omega)
    simp only [go_sem, seval, reduceCtorEq, hok, b1, e]
    (refine FnEnd.mk (Nat.le_of_ble_eq_true rfl) rfl (of_decide_eq_true rfl) ?_ ?_ <;> try simp only [go_sem, seval, reduceCtorEq])
  have hW := widN_le hok
  have h100 := labelsL_100 hok
  have e : bwN N = best (widS (labL N.ts) (closedL N)) (closedL N).length 100 (2 ^ (closedL N).length - 1) := by
    rw [bwN, if_pos ⟨hok, by omega⟩]
    have := Nat.two_pow_pos (closedL N).length
    exact best_cap (m := (labelsL N).length) (by omega) (by omega) (by omega) hW _ (by omega)
  have h12 := (netOk_iff.1 hok).2.1
  have hlo := labL_ok (netOk_ax hok)
  have hll := labL_len N.ts
  simp only [go_sem, seval, reduceCtorEq, hok, b1]
  generalize hC : closedL N = C at *
  generalize hWd : widS (labL N.ts) C = W at *
  have hmin : min C.length 64 = C.length := by omega
  have hsh := shl_eq (k := C.length) (by omega)
  simp (disch := omega) only [go_sem, seval, reduceCtorEq, hmin, hsh]
  have hp10 : 2 ^ C.length ≤ 2 ^ 10 := Nat.pow_le_pow_right (by omega) (by omega)
  have hp1 := Nat.two_pow_pos C.length
  have hbl : ∀ {i j : Nat}, bt j i = true → j < 2 ^ C.length → i < C.length := fun h hj => bt_lt h hj
  have hal : ∀ {s k : Nat}, bt s k = false → s < 2 ^ C.length → k < C.length → s + 2 ^ k < 2 ^ C.length := fun h hs hk => add_lt h hs hk
  generalize hn : 2 ^ C.length = n at *
  have hr0 : List.replicate n (0 : Int) = tab n fun _ => 0 := tab_rep n
  refine And.intro ⟨by omega, by omega⟩ ?_
  simp only [hr0]
  have hn1 : (n : Int) - 1 = ((n - 1 : Nat) : Int) := by omega
  have hs0 : tab n (spo W C.length 100 0) = tab n fun _ => 0 := tab_congr fun j _ => by
    unfold spo
    split
    · obtain rfl : j = 0 := by omega
      exact best_zero
    · rfl
  refine wpN_lp (n - 1) [false, false, false, false, false, false, true, true, true, false, false, false, false, false, false, false, false, false, false, false, false, false, false, true, true, true, true, true, true, true, true, true, true, true, true, true, true, true, true, true, true, true, true, true, true, true, true, true, true, true, true, true, true, true, true, true, true, true, true, true, true, true, true, true, true, true, true, false, false, false, false, false, false] (fun s => [(5, .d (.int ((s + 1 : Nat) : Int)))]) (fun s => [(2, iv (tab n (spo W C.length 100 s)))]) (fun _ => by (simp only [go_sem, seval, reduceCtorEq, dropF_ch, dropF_cons, dropF_nil, cut, cond_true, cond_false]); first | done | rfl) (fun _ => by (simp only [go_sem, seval, reduceCtorEq, cut]); first | done | rfl) (Nat.le_of_ble_eq_true rfl) (by first | (simp only [go_sem, seval, reduceCtorEq, dropF_ch, dropF_cons, dropF_nil, cut, cond_true, cond_false, Int.natCast_zero, Int.natCast_add, Int.natCast_one, hs0]; done) | rfl | (simp only [go_sem, seval, reduceCtorEq, dropF_ch, dropF_cons, dropF_nil, cut, cond_true, cond_false, Int.natCast_zero, Int.natCast_add, Int.natCast_one, hs0]; rfl)) (by first | (simp only [go_sem, seval, reduceCtorEq, dropF_ch, dropF_cons, dropF_nil, cut, cond_true, cond_false, Int.natCast_zero, Int.natCast_add, Int.natCast_one, hs0]; done) | rfl | (simp only [go_sem, seval, reduceCtorEq, dropF_ch, dropF_cons, dropF_nil, cut, cond_true, cond_false, Int.natCast_zero, Int.natCast_add, Int.natCast_one, hs0]; rfl)) fun s hs => ?_
  unfold L1_spec_BestWidth
  have htl := tab_len n (spo W C.length 100 s)
  obtain ⟨S, hS⟩ : ∃ S : Nat, S = s + 1 := ⟨_, rfl⟩
  have hcS : ((s + 1 : Nat) : Int) = (S : Int) := by omega
  have hcN : ((s + 1 + 1 : Nat) : Int) = (S : Int) + 1 := by omega
  have hcN2 : ((s + 2 : Nat) : Int) = (S : Int) + 1 := by omega
  by_cases hlt : s < n - 1
  · have d1 : (S : Int) < n := by omega
    have hSn : S < n := by omega
    have hst0 : (tab n (spo W C.length 100 s)).take S ++ [100] ++ (tab n (spo W C.length 100 s)).drop (S + 1) = tab n (spi W C.length 100 S 0) := tab_put hSn fun i hi => by
      unfold spo spi
      by_cases e1 : i < S
      · rw [if_pos e1, if_neg (by omega), if_pos (by omega)]
      · by_cases e2 : i = S
        · rw [if_neg e1, if_pos e2, if_pos e2]; rfl
        · rw [if_neg e1, if_neg e2, if_neg e2, if_neg (by omega)]
    simp (disch := omega) only [go_sem, seval, reduceCtorEq, hcS, d1, hst0]
    refine And.intro (by omega) ?_
    refine wpN_lp (C.length) [false, false, false, false, false, false, true, true, true, false, false, false, false, false, false, false, false, false, false, false, false, false, false, false, false, false, false, false, false, false, false, false, false, false, false, true, true, true, true, true, true, true, true, true, true, true, true, true, true, true, true, true, true, true, true, true, true, true, true, true, true, true, true, true, true, true, true, false, false, false, false, false, false] (fun r => [(34, .d (.int r))]) (fun r => [(2, iv (tab n (spi W C.length 100 S r)))]) (fun _ => by (simp only [go_sem, seval, reduceCtorEq, dropF_ch, dropF_cons, dropF_nil, cut, cond_true, cond_false]); first | done | rfl) (fun _ => by (simp only [go_sem, seval, reduceCtorEq, cut]); first | done | rfl) (Nat.le_of_ble_eq_true rfl) (by first | (simp only [go_sem, seval, reduceCtorEq, dropF_ch, dropF_cons, dropF_nil, cut, cond_true, cond_false, Int.natCast_zero, Int.natCast_add, Int.natCast_one, hst0]; done) | rfl | (simp only [go_sem, seval, reduceCtorEq, dropF_ch, dropF_cons, dropF_nil, cut, cond_true, cond_false, Int.natCast_zero, Int.natCast_add, Int.natCast_one, hst0]; rfl)) (by first | (simp only [go_sem, seval, reduceCtorEq, dropF_ch, dropF_cons, dropF_nil, cut, cond_true, cond_false, Int.natCast_zero, Int.natCast_add, Int.natCast_one, hst0]; done) | rfl | (simp only [go_sem, seval, reduceCtorEq, dropF_ch, dropF_cons, dropF_nil, cut, cond_true, cond_false, Int.natCast_zero, Int.natCast_add, Int.natCast_one, hst0]; rfl)) fun r hr => ?_
    unfold L0_spec_BestWidth
    have htl := tab_len n (spi W C.length 100 S r)
    by_cases hlr : r < C.length
    · have d2 : (r : Int) < C.length := by omega
      have g : C[r]? = some C[r] := List.getElem?_eq_getElem hlr
      have gd : C.getD r 0 = C[r] := getD_of hlr
      have hmin : min r 64 = r := by omega
      have hbo := bit_one (s := S) (k := r) (by omega)
      simp (disch := omega) only [go_sem, seval, reduceCtorEq, d2, g, hmin, hbo]
      (repeat (refine And.intro (by omega) ?_))
      cases hb : bt S r
      · have hsk : tab n (spi W C.length 100 S (r + 1)) = tab n (spi W C.length 100 S r) := tab_congr fun j _ => by
          have e0 : lst (bt S) (bval W C.length 100 S) 100 (r + 1) = lst (bt S) (bval W C.length 100 S) 100 r := by rw [lst, if_neg (by rw [hb]; simp)]
          unfold spi
          rw [e0]
        simp (disch := omega) only [go_sem, seval, reduceCtorEq, hb]
        (refine Next.drop [false, false, false, false, false, false, true, true, true, false, false, false, false, false, false, false, false, false, false, false, false, false, false, false, false, false, false, false, false, false, false, false, false, false, false, true, true, true, true, true, true, true, true, true, true, true, true, true, true, true, true, true, true, true, true, true, true, true, true, true, true, true, true, true, true, true, true, false, false, false, false, false, false] (by omega) (Nat.le_of_ble_eq_true rfl) ?_ ?_ <;> first | (simp only [go_sem, seval, reduceCtorEq, dropF_ch, dropF_cons, dropF_nil, cut, cond_true, cond_false, Int.natCast_zero, Int.natCast_add, Int.natCast_one, hsk]; done) | rfl | (simp only [go_sem, seval, reduceCtorEq, dropF_ch, dropF_cons, dropF_nil, cut, cond_true, cond_false, Int.natCast_zero, Int.natCast_add, Int.natCast_one, hsk]; rfl) | skip)
      · have hge := bt_ge hb
        have hpp := Nat.two_pow_pos r
        obtain ⟨p, hp⟩ : ∃ p, p = 2 ^ r := ⟨_, rfl⟩
        obtain ⟨R, hR⟩ : ∃ R, R = S - p := ⟨_, rfl⟩
        have hsr : IntKind.i64.wrap (1 * 2 ^ r) = (p : Int) := by rw [shl_eq (k := r) (by omega), hp]
        have hRS : (S : Int) - (p : Int) = (R : Int) := by rw [← hp] at hge; omega
        have hRl : R < S := by rw [← hp] at hge hpp; omega
        have hWr : ((bucket (elS (labL N.ts) C R C.length) C[r]).length : Int) = W R r := by rw [← hWd]; unfold widS; rw [gd]
        have gS : (tab n (spi W C.length 100 S r))[S]? = some (lst (bt S) (bval W C.length 100 S) 100 r) := by
          rw [tab_get _ hSn]
          unfold spi
          rw [if_neg (by omega), if_pos rfl]
        have gR : (tab n (spi W C.length 100 S r))[R]? = some (best W C.length 100 R) := by
          rw [tab_get _ (by omega)]
          unfold spi
          rw [if_pos hRl]
        have hst : (tab n (spi W C.length 100 S r)).take S ++ [min (lst (bt S) (bval W C.length 100 S) 100 r) (max (best W C.length 100 R) (W R r))] ++ (tab n (spi W C.length 100 S r)).drop (S + 1) = tab n (spi W C.length 100 S (r + 1)) := tab_put hSn fun i hi => by
          unfold spi
          by_cases e1 : i < S
          · rw [if_pos e1, if_pos e1, if_neg (by omega)]
          · by_cases e2 : i = S
            · rw [if_neg e1, if_pos e2, if_pos e2, lst, if_pos hb]
              unfold bval
              rw [← hp, ← hR]
            · rw [if_neg e1, if_neg e1, if_neg e2, if_neg e2, if_neg e2]
        have hRn : (R : Int) < n := by omega
        simp (disch := omega) only [go_sem, seval, reduceCtorEq, hb, hmin, hsr, hRS, d1, gS, gR, hRn]
        (refine gi_call (l21Width_d (C := C) (s := R) (x := C[r]) h (netOk_ax hok) h12 (by omega) (by omega)) ?_ ?_ ?_; (focus (simp only [go_sem, seval, reduceCtorEq, List.take_length]; done)); (first | rfl | (focus (simp only [go_sem]; done))))
        simp (disch := omega) only [go_sem, seval, reduceCtorEq, hWr, gS, gR]
        (repeat (refine And.intro (by omega) ?_))
        (refine Next.drop [false, false, false, false, false, false, true, true, true, false, false, false, false, false, false, false, false, false, false, false, false, false, false, false, false, false, false, false, false, false, false, false, false, false, false, true, true, true, true, true, true, true, true, true, true, true, true, true, true, true, true, true, true, true, true, true, true, true, true, true, true, true, true, true, true, true, true, false, false, false, false, false, false] (by omega) (Nat.le_of_ble_eq_true rfl) ?_ ?_ <;> first | (simp only [go_sem, seval, reduceCtorEq, dropF_ch, dropF_cons, dropF_nil, cut, cond_true, cond_false, Int.natCast_zero, Int.natCast_add, Int.natCast_one, hst]; done) | rfl | (simp only [go_sem, seval, reduceCtorEq, dropF_ch, dropF_cons, dropF_nil, cut, cond_true, cond_false, Int.natCast_zero, Int.natCast_add, Int.natCast_one, hst]; rfl) | skip)
    have d2 : ¬ (r : Int) < C.length := by omega
    obtain rfl : r = C.length := by omega
    have hnx : tab n (spi W C.length 100 S C.length) = tab n (spo W C.length 100 (s + 1)) := tab_congr fun j hj => by
      unfold spi spo
      by_cases e1 : j < S
      · rw [if_pos e1, if_pos (by omega)]
      · by_cases e2 : j = S
        · subst e2
          rw [if_neg e1, if_pos rfl, if_pos (by omega), best_eq (by omega)]
        · rw [if_neg e1, if_neg e2, if_neg (by omega)]
    simp (disch := omega) only [go_sem, seval, reduceCtorEq, d2]
    (refine Next.drop [false, false, false, false, false, false, true, true, true, false, false, false, false, false, false, false, false, false, false, false, false, false, false, true, true, true, true, true, true, true, true, true, true, true, true, true, true, true, true, true, true, true, true, true, true, true, true, true, true, true, true, true, true, true, true, true, true, true, true, true, true, true, true, true, true, true, true, false, false, false, false, false, false] (by omega) (Nat.le_of_ble_eq_true rfl) ?_ ?_ <;> first | (simp only [go_sem, seval, reduceCtorEq, dropF_ch, dropF_cons, dropF_nil, cut, cond_true, cond_false, Int.natCast_zero, Int.natCast_add, Int.natCast_one, hnx, hcS, hcN, hcN2]; done) | rfl | (simp only [go_sem, seval, reduceCtorEq, dropF_ch, dropF_cons, dropF_nil, cut, cond_true, cond_false, Int.natCast_zero, Int.natCast_add, Int.natCast_one, hnx, hcS, hcN, hcN2]; rfl) | skip)
  have d1 : ¬ (S : Int) < n := by omega
  obtain rfl : s = n - 1 := by omega
  have gE : (tab n (spo W C.length 100 (n - 1)))[n - 1]? = some (best W C.length 100 (n - 1)) := by
    rw [tab_get _ (by omega)]
    unfold spo
    rw [if_pos (by omega)]
  simp (disch := omega) only [go_sem, seval, reduceCtorEq, hcS, d1, hn1, gE, e]
  (repeat (refine And.intro (by omega) ?_))
  (refine FnEnd.mk (Nat.le_of_ble_eq_true rfl) rfl (of_decide_eq_true rfl) ?_ ?_ <;> try simp only [go_sem, seval, reduceCtorEq])
end Go.Proofs.Ytcgnehacihjnkaa
