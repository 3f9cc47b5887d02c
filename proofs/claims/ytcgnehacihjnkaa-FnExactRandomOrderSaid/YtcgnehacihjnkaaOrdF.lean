/-
  Contracts: pairs, seeds, random orders. No condition.
-/
import Derived.Test.YtcgnehacihjnkaaPlP
import Derived.Test.YtcgnehacihjnkaaPlK
import Derived.Test.YtcgnehacihjnkaaOrdT
namespace Go.Proofs.Ytcgnehacihjnkaa
open Go.RowKit Go.Lift Plain
set_option linter.unusedSimpArgs false
set_option linter.unusedVariables false
set_option maxRecDepth 100000

theorem iv_flat (l : List (Nat × Nat)) (a b : Nat) : iv (flatP l) ++ [.d (.int (a : Int)), .d (.int (b : Int))] = iv (flatP (l ++ [(a, b)])) := by rw [← flatP_snoc]; simp [iv]
theorem l19Pairs_d {T : List Int} {s : Osd} {m : Nat} (h : OsOk s m) (hm : m ≤ 1000) :
    Does Try.prog 117 [osQ T s] [] (.own 0 0 (prs s.nums).length) [some ⟨2, true, iv (flatP (prs s.nums))⟩] := by
  have hn := h.n
  have hg := h.gl
  have hz : pairTo s 0 = [] := rfl
  have hz2 : flatP [] = [] := rfl
  have hb1 : ∀ a b, (rowTo s a b).length ≤ b := fun a b => by
    unfold rowTo
    split
    · rw [List.length_map]; exact Nat.le_trans (List.length_filter_le _ _) (by simp)
    · simp
  have hb2 : ∀ a, (pairTo s a).length ≤ a * 1000 := fun a => by
    induction a with
    | zero => simp [pairTo]
    | succ a ih =>
      have := hb1 a s.all.length
      rw [pairTo_next, List.length_append]
      omega
  (refine spec_of (by kernel_rfl) Try.func117 k_spec_l19Pairs (fnOk (Nat.le_of_ble_eq_true rfl) ?_); unfold C_spec_l19Pairs)
  simp only [osQ]
  (simp only [Nat.reduceSub, List.length_cons, List.length_nil, Nat.reduceAdd, ch_init1, ch_init2, ch_init3, ch_init4, ch_init5, ch_init6, ch_init7, ch_init8]; try simp only [ch_rep]); (simp only [go_sem, seval, reduceCtorEq, List.replicate])
  refine wpN_lp (s.all.length) [false, false, false, false, true, true, true, false, false, false, false, false, false, true, true, true, true, true, true, true, true, true, true, true, true, true, true, true, true, true, true, true, true, true, true, true, true, true, true, true, true, true, true, true, true, true, true, true, true, true, true, false] (fun k => [(12, .d (.int k)), (3, .own 0 0 (pairTo s k).length)]) (fun k => [(0, iv (flatP (pairTo s k)))]) (fun _ => by (simp only [go_sem, seval, reduceCtorEq, dropF_ch, dropF_cons, dropF_nil, cut, cond_true, cond_false]); first | done | rfl) (fun _ => by (simp only [go_sem, seval, reduceCtorEq, cut]); first | done | rfl) (Nat.le_of_ble_eq_true rfl) (by first | (simp only [go_sem, seval, reduceCtorEq, dropF_ch, dropF_cons, dropF_nil, cut, cond_true, cond_false, Int.natCast_zero, Int.natCast_add, Int.natCast_one, hz, hz2, iv_nil]; done) | rfl | (simp only [go_sem, seval, reduceCtorEq, dropF_ch, dropF_cons, dropF_nil, cut, cond_true, cond_false, Int.natCast_zero, Int.natCast_add, Int.natCast_one, hz, hz2, iv_nil]; rfl)) (by first | (simp only [go_sem, seval, reduceCtorEq, dropF_ch, dropF_cons, dropF_nil, cut, cond_true, cond_false, Int.natCast_zero, Int.natCast_add, Int.natCast_one, hz, hz2, iv_nil]; done) | rfl | (simp only [go_sem, seval, reduceCtorEq, dropF_ch, dropF_cons, dropF_nil, cut, cond_true, cond_false, Int.natCast_zero, Int.natCast_add, Int.natCast_one, hz, hz2, iv_nil]; rfl)) fun k hk => ?_
  unfold L1_spec_l19Pairs
  have hpl := hb2 k
  have hfl := flatP_len (pairTo s k)
  by_cases hlt : k < s.all.length
  · have d1 : (k : Int) < s.all.length := by omega
    have hr0 := rowTo_zero s k
    simp (disch := omega) only [go_sem, seval, reduceCtorEq, d1]
    refine wpN_lp (s.all.length - (k + 1)) [false, false, false, false, false, false, false, false, false, false, false, false, false, false, false, false, false, true, true, true, true, true, true, true, true, true, true, true, true, true, true, true, true, true, true, true, true, true, true, true, true, true, true, true, true, true, true, true, true, true, false, false] (fun q => [(5, .d (.int ((k + 1 + q : Nat) : Int))), (3, .own 0 0 (pairTo s k ++ rowTo s k (k + 1 + q)).length)]) (fun q => [(0, iv (flatP (pairTo s k ++ rowTo s k (k + 1 + q))))]) (fun _ => by (simp only [go_sem, seval, reduceCtorEq, dropF_ch, dropF_cons, dropF_nil, cut, cond_true, cond_false]); first | done | rfl) (fun _ => by (simp only [go_sem, seval, reduceCtorEq, cut]); first | done | rfl) (Nat.le_of_ble_eq_true rfl) (by first | (simp only [go_sem, seval, reduceCtorEq, dropF_ch, dropF_cons, dropF_nil, cut, cond_true, cond_false, Int.natCast_zero, Int.natCast_add, Int.natCast_one, hr0, List.append_nil, Int.add_zero]; done) | rfl | (simp only [go_sem, seval, reduceCtorEq, dropF_ch, dropF_cons, dropF_nil, cut, cond_true, cond_false, Int.natCast_zero, Int.natCast_add, Int.natCast_one, hr0, List.append_nil, Int.add_zero]; rfl)) (by first | (simp only [go_sem, seval, reduceCtorEq, dropF_ch, dropF_cons, dropF_nil, cut, cond_true, cond_false, Int.natCast_zero, Int.natCast_add, Int.natCast_one, hr0, List.append_nil, Int.add_zero]; done) | rfl | (simp only [go_sem, seval, reduceCtorEq, dropF_ch, dropF_cons, dropF_nil, cut, cond_true, cond_false, Int.natCast_zero, Int.natCast_add, Int.natCast_one, hr0, List.append_nil, Int.add_zero]; rfl)) fun q hq => ?_
    unfold L0_spec_l19Pairs
    have hrl := hb1 k (k + 1 + q)
    have hal : (pairTo s k ++ rowTo s k (k + 1 + q)).length = (pairTo s k).length + (rowTo s k (k + 1 + q)).length := List.length_append
    have hfl2 := flatP_len (pairTo s k ++ rowTo s k (k + 1 + q))
    have hq1 : (k : Int) + 1 + q + 1 = k + 1 + (q + 1) := by omega
    by_cases hltq : k + 1 + q < s.all.length
    · have d2 : ((k + 1 + q : Nat) : Int) < s.all.length := by omega
      have d3 : (k : Int) < s.gone.length := by omega
      have d4 : ((k + 1 + q : Nat) : Int) < s.gone.length := by omega
      have g1 : s.gone[k]? = some (!s.alive k) := by
        rw [List.getElem?_eq_getElem (by omega), Osd.alive, List.getD_eq_getElem?_getD, List.getElem?_eq_getElem (by omega)]; simp
      have g2 : s.gone[k + 1 + q]? = some (!s.alive (k + 1 + q)) := by
        rw [List.getElem?_eq_getElem (by omega), Osd.alive, List.getD_eq_getElem?_getD, List.getElem?_eq_getElem (by omega)]; simp
      have hsame : k + 1 + (q + 1) = (k + 1 + q) + 1 := by omega
      cases e1 : s.alive k
      · have e := rowTo_no (s := s) (a := k) (b := k + 1 + q) (by rw [e1]; rfl)
        rw [← hsame] at e
        simp (disch := omega) only [go_sem, seval, reduceCtorEq, d2, d3, g1, e1]
        (refine Next.drop [false, false, false, false, false, false, false, false, false, false, false, false, false, false, false, false, false, true, true, true, true, true, true, true, true, true, true, true, true, true, true, true, true, true, true, true, true, true, true, true, true, true, true, true, true, true, true, true, true, true, false, false] (by omega) (Nat.le_of_ble_eq_true rfl) ?_ ?_ <;> first | (simp only [go_sem, seval, reduceCtorEq, dropF_ch, dropF_cons, dropF_nil, cut, cond_true, cond_false, Int.natCast_zero, Int.natCast_add, Int.natCast_one, e, hq1]; done) | rfl | (simp only [go_sem, seval, reduceCtorEq, dropF_ch, dropF_cons, dropF_nil, cut, cond_true, cond_false, Int.natCast_zero, Int.natCast_add, Int.natCast_one, e, hq1]; rfl) | skip)
      · cases e2 : s.alive (k + 1 + q)
        · have e := rowTo_no (s := s) (a := k) (b := k + 1 + q) (by rw [e2, Bool.and_false])
          rw [← hsame] at e
          simp (disch := omega) only [go_sem, seval, reduceCtorEq, d2, d3, d4, g1, g2, e1, e2]
          (refine Next.drop [false, false, false, false, false, false, false, false, false, false, false, false, false, false, false, false, false, true, true, true, true, true, true, true, true, true, true, true, true, true, true, true, true, true, true, true, true, true, true, true, true, true, true, true, true, true, true, true, true, true, false, false] (by omega) (Nat.le_of_ble_eq_true rfl) ?_ ?_ <;> first | (simp only [go_sem, seval, reduceCtorEq, dropF_ch, dropF_cons, dropF_nil, cut, cond_true, cond_false, Int.natCast_zero, Int.natCast_add, Int.natCast_one, e, hq1]; done) | rfl | (simp only [go_sem, seval, reduceCtorEq, dropF_ch, dropF_cons, dropF_nil, cut, cond_true, cond_false, Int.natCast_zero, Int.natCast_add, Int.natCast_one, e, hq1]; rfl) | skip)
        · have e := rowTo_yes (s := s) (a := k) (b := k + 1 + q) (by omega) e1 e2
          rw [← hsame] at e
          have hrow := iv_flat (pairTo s k ++ rowTo s k (k + 1 + q)) k (k + 1 + q)
          rw [List.append_assoc, ← e] at hrow
          simp (disch := omega) only [go_sem, seval, reduceCtorEq, d2, d3, d4, g1, g2, e1, e2]
          (repeat (refine And.intro (by omega) ?_))
          simp only [hrow]
          (refine Next.drop [false, false, false, false, false, false, false, false, false, false, false, false, false, false, false, false, false, true, true, true, true, true, true, true, true, true, true, true, true, true, true, true, true, true, true, true, true, true, true, true, true, true, true, true, true, true, true, true, true, true, false, false] (by omega) (Nat.le_of_ble_eq_true rfl) ?_ ?_ <;> first | (simp only [go_sem, seval, reduceCtorEq, dropF_ch, dropF_cons, dropF_nil, cut, cond_true, cond_false, Int.natCast_zero, Int.natCast_add, Int.natCast_one, e, hq1, ← List.append_assoc, List.length_append]; done) | rfl | (simp only [go_sem, seval, reduceCtorEq, dropF_ch, dropF_cons, dropF_nil, cut, cond_true, cond_false, Int.natCast_zero, Int.natCast_add, Int.natCast_one, e, hq1, ← List.append_assoc, List.length_append]; rfl) | skip)
    · have d2 : ¬ ((k + 1 + q : Nat) : Int) < s.all.length := by omega
      have e : k + 1 + q = s.all.length := by omega
      have hn2 := pairTo_next s k
      rw [← e] at hn2
      simp (disch := omega) only [go_sem, seval, reduceCtorEq, d2]
      (refine Next.drop [false, false, false, false, true, true, true, false, false, false, false, false, false, true, true, true, true, true, true, true, true, true, true, true, true, true, true, true, true, true, true, true, true, true, true, true, true, true, true, true, true, true, true, true, true, true, true, true, true, true, true, false] (by omega) (Nat.le_of_ble_eq_true rfl) ?_ ?_ <;> first | (simp only [go_sem, seval, reduceCtorEq, dropF_ch, dropF_cons, dropF_nil, cut, cond_true, cond_false, Int.natCast_zero, Int.natCast_add, Int.natCast_one, hn2]; done) | rfl | (simp only [go_sem, seval, reduceCtorEq, dropF_ch, dropF_cons, dropF_nil, cut, cond_true, cond_false, Int.natCast_zero, Int.natCast_add, Int.natCast_one, hn2]; rfl) | skip)
  · have d1 : ¬ (k : Int) < s.all.length := by omega
    obtain rfl : k = s.all.length := by omega
    simp (disch := omega) only [go_sem, seval, reduceCtorEq, d1, pairTo_all]
    (refine FnEnd.mk (Nat.le_of_ble_eq_true rfl) rfl (of_decide_eq_true rfl) ?_ ?_ <;> try simp only [go_sem, seval, reduceCtorEq])
/-! ### Seeds -/
def maskI (x : Int) : Int := IntKind.i64.wrap ((BitVec.ofInt 64 x &&& 2147483647#64).toNat : Nat)
def nextSeed (x : Int) : Int := maskI (1103515245 * maskI x + 12345)
theorem maskI_bd (x : Int) : 0 ≤ maskI x ∧ maskI x ≤ 2147483647 := by
  unfold maskI
  have h : (BitVec.ofInt 64 x &&& 2147483647#64).toNat ≤ 2147483647 := by
    rw [BitVec.toNat_and]
    exact Nat.le_trans Nat.and_le_right (by decide)
  generalize (BitVec.ofInt 64 x &&& 2147483647#64).toNat = n at *
  rw [IntKind.wrap_i64]
  omega
theorem iNextSeed_d (x : Int) : Does Try.prog 166 [.d (.int x)] [] (.d (.int (nextSeed x))) [] := by
  have h1 := maskI_bd x
  have e1 : ∀ y, IntKind.i64.wrap ((BitVec.ofInt 64 y &&& 2147483647#64).toNat : Nat) = maskI y := fun _ => rfl
  (refine spec_of (by kernel_rfl) Try.func166 k_impl_NextSeed (fnOk (Nat.le_of_ble_eq_true rfl) ?_); unfold C_impl_NextSeed)
  (simp only [Nat.reduceSub, List.length_cons, List.length_nil, Nat.reduceAdd, ch_init1, ch_init2, ch_init3, ch_init4, ch_init5, ch_init6, ch_init7, ch_init8]; try simp only [ch_rep]); (simp only [go_sem, seval, reduceCtorEq, List.replicate])
  simp (disch := omega) only [go_sem, seval, reduceCtorEq, e1, nextSeed]
  (refine FnEnd.mk (Nat.le_of_ble_eq_true rfl) rfl (of_decide_eq_true rfl) ?_ ?_ <;> try simp only [go_sem, seval, reduceCtorEq])
theorem sNextSeed_d (x : Int) : Does Try.prog 118 [.d (.int x)] [] (.d (.int (nextSeed x))) [] := by
  have h1 := maskI_bd x
  have e1 : ∀ y, IntKind.i64.wrap ((BitVec.ofInt 64 y &&& 2147483647#64).toNat : Nat) = maskI y := fun _ => rfl
  (refine spec_of (by kernel_rfl) Try.func118 k_spec_NextSeed (fnOk (Nat.le_of_ble_eq_true rfl) ?_); unfold C_spec_NextSeed)
  (simp only [Nat.reduceSub, List.length_cons, List.length_nil, Nat.reduceAdd, ch_init1, ch_init2, ch_init3, ch_init4, ch_init5, ch_init6, ch_init7, ch_init8]; try simp only [ch_rep]); (simp only [go_sem, seval, reduceCtorEq, List.replicate])
  simp (disch := omega) only [go_sem, seval, reduceCtorEq, e1, nextSeed]
  (refine FnEnd.mk (Nat.le_of_ble_eq_true rfl) rfl (of_decide_eq_true rfl) ?_ ?_ <;> try simp only [go_sem, seval, reduceCtorEq])
/-! ### Random orders -/
structure Rnd where
  s : Osd
  seed : Int
  ps : List (Nat × Nat)
def rndStep (os : List Int) (r : Rnd) : Rnd :=
  let x := nextSeed r.seed
  let p := (prs r.s.nums).getD ((x.toNat / 65536) % (prs r.s.nums).length) (0, 0)
  ⟨r.s.step os p.1 p.2, x, r.ps ++ [p]⟩
def rndTo (os : List Int) (r : Rnd) : Nat → Rnd
  | 0 => r
  | k + 1 => rndStep os (rndTo os r k)
theorem off_len {l : List Nat} (hn : l.Nodup) {a b : Nat} (ha : a ∈ l) (hb : b ∈ l) (hab : a ≠ b) : (l.filter (Osd.off a b)).length + 2 = l.length := by
  have e : l.filter (Osd.off a b) = (l.erase a).erase b := by
    rw [List.Nodup.erase_eq_filter hn, List.Nodup.erase_eq_filter (hn.filter _), List.filter_filter]
    refine List.filter_congr fun x _ => ?_
    unfold Osd.off
    rw [Bool.and_comm]
  have h1 := List.length_erase_of_mem ha
  have h2 := List.length_erase_of_mem (show b ∈ l.erase a from (List.Nodup.mem_erase_iff hn).2 ⟨hab.symm, hb⟩)
  have h3 := List.length_pos_of_mem ha
  have h4 := List.length_pos_of_mem (show b ∈ l.erase a from (List.Nodup.mem_erase_iff hn).2 ⟨hab.symm, hb⟩)
  rw [e]
  omega
theorem prs_ne : ∀ {l : List Nat} {p : Nat × Nat}, l.Nodup → p ∈ prs l → p.1 ≠ p.2
  | x :: l, p, h, hp => by
    rw [List.nodup_cons] at h
    simp only [prs, List.mem_append, List.mem_map] at hp
    rcases hp with ⟨y, hy, rfl⟩ | hp
    · exact fun e => h.1 (by simp only at e; rw [e]; exact hy)
    · exact prs_ne h.2 hp
/-- What is known of a state with q tensors, after k steps. -/
structure RndOk (os : List Int) (r : Rnd) (m q : Nat) : Prop where
  ok : OsOk r.s m
  n : r.s.nums.length = q
theorem step_nums {os : List Int} {s : Osd} {m q : Nat} {p : Nat × Nat} (h : OsOk s m) (hn : s.nums.length = q + 2) (hp : p ∈ prs s.nums) : (s.step os p.1 p.2).nums.length = q + 1 := by
  have h1 := prs_mem hp
  have h2 := off_len (nums_nodup s) h1.1 h1.2 (prs_ne (nums_nodup s) hp)
  rw [nums_step h, List.length_append, List.length_singleton]
  omega
theorem prs_pos {l : List Nat} {q : Nat} (h : l.length = q + 2) : 0 < (prs l).length := by
  rw [prs_half (by omega), h]
  have : (q + 2) * (q + 2 - 1) = (q + 1) * q + 2 * (q + 1) := by
    rw [show q + 2 - 1 = q + 1 by omega, show q + 2 = (q + 1) + 1 by omega, Nat.add_mul, Nat.mul_add]; omega
  rw [this]
  omega
theorem rnd_pick {r : Rnd} {q : Nat} (h : r.s.nums.length = q + 2) (x : Int) : ∃ c : Nat, ∃ hc : c < (prs r.s.nums).length, (x.toNat / 65536) % (prs r.s.nums).length = c ∧ (prs r.s.nums).getD c (0, 0) = (prs r.s.nums)[c] ∧ (prs r.s.nums)[c] ∈ prs r.s.nums := by
  have hp := prs_pos h
  refine ⟨_, Nat.mod_lt _ hp, rfl, ?_, List.getElem_mem _⟩
  rw [List.getD_eq_getElem?_getD, List.getElem?_eq_getElem (Nat.mod_lt _ hp)]; rfl
theorem rndStep_ok {os : List Int} {r : Rnd} {m q : Nat} (h : RndOk os r m (q + 2)) : RndOk os (rndStep os r) (m + 1) (q + 1) := by
  obtain ⟨c, hc, e1, e2, e3⟩ := rnd_pick h.n (nextSeed r.seed)
  refine ⟨h.ok.step _ _ _, ?_⟩
  simp only [rndStep, e1, e2]
  exact step_nums h.ok h.n e3
theorem rndTo_ok {os : List Int} {r : Rnd} {m q : Nat} (h : RndOk os r m (q + 1)) : ∀ k, k ≤ q → RndOk os (rndTo os r k) (m + k) (q + 1 - k)
  | 0, _ => h
  | k + 1, hk => by
    have ih := rndTo_ok h k (by omega)
    rw [show q + 1 - k = (q - (k + 1)) + 2 by omega] at ih
    have := rndStep_ok ih
    rw [show q + 1 - (k + 1) = q - (k + 1) + 1 by omega]
    exact this
theorem rndTo_ps (os : List Int) (r : Rnd) : ∀ k, (rndTo os r k).ps.length = r.ps.length + k
  | 0 => rfl
  | k + 1 => by rw [rndTo, rndStep, List.length_append, rndTo_ps os r k]; rfl
theorem tdiv_nat (a b : Nat) : (a : Int).tdiv (b : Int) = ((a / b : Nat) : Int) := rfl
theorem tmod_nat (a b : Nat) : (a : Int).tmod (b : Int) = ((a % b : Nat) : Int) := rfl
theorem rndTo_T {T os : List Int} {r : Rnd} {m q : Nat} (h : RndOk os r m (q + 1)) (hT : OsT T r.s) : ∀ k, k ≤ q → OsT T (rndTo os r k).s
  | 0, _ => hT
  | k + 1, hk => by
    have ih := rndTo_T h hT k (by omega)
    have ho := (rndTo_ok h k (by omega)).ok
    exact OsT.step ho ih
theorem rnd_init {N : Net} {x : Int} (hok : netOk N = true) (h : 1 ≤ N.ts.length) : RndOk N.os ⟨osInit N.ts, x, []⟩ N.ts.length (N.ts.length - 1 + 1) := ⟨osInit_ok (netOk_ax hok), by rw [osInit_nums, List.length_range]; omega⟩
theorem sRandomOrder_o {N : Net} {x : Int} (h : NSz 1048576 N) (hok : netOk N = true) :
    Does Try.prog 55 [netA N, .d (.int x)] [] (.own 0 0 (N.ts.length - 1)) [some ⟨2, true, iv (flatP (rndTo N.os ⟨osInit N.ts, x, []⟩ (N.ts.length - 1)).ps)⟩] := by
  have hol := h.o.len
  have h12 := (netOk_iff.1 hok).2.1
  have hT := osInit_T hok
  (refine spec_of (by kernel_rfl) Try.func55 k_spec_RandomOrder (fnOk (Nat.le_of_ble_eq_true rfl) ?_); unfold C_spec_RandomOrder)
  (simp only [Nat.reduceSub, List.length_cons, List.length_nil, Nat.reduceAdd, ch_init1, ch_init2, ch_init3, ch_init4, ch_init5, ch_init6, ch_init7, ch_init8]; try simp only [ch_rep]); (simp only [go_sem, seval, reduceCtorEq, List.replicate])
  (refine ti_call (sNetworkOk_d h) ?_ ?_ ?_; (focus (simp only [go_sem, seval, reduceCtorEq]; done)); (first | rfl | (focus (simp only [go_sem]; done))))
  simp only [go_sem, seval, reduceCtorEq, hok]
  (refine ti_call (l17New_d h hok) ?_ ?_ ?_; (focus (simp only [go_sem, seval, reduceCtorEq, stoQ]; done)); (first | rfl | (focus (simp only [go_sem]; done))))
  simp only [go_sem, seval, reduceCtorEq, stoQ]
  generalize hT0 : (dimsR N.ts).1 = T at *
  generalize hr0 : (⟨osInit N.ts, x, []⟩ : Rnd) = r0 at *
  have hz1 : rndTo N.os r0 0 = r0 := rfl
  have hz2 : r0.s = osInit N.ts := by rw [← hr0]
  have hz3 : r0.seed = x := by rw [← hr0]
  have hz4 : flatP r0.ps = [] := by rw [← hr0]; rfl
  have hz5 : r0.ps.length = 0 := by rw [← hr0]; rfl
  have hq1 : ((0 : Int) + 1) = 1 := rfl
  refine wpN_lp (N.ts.length - 1) [false, false, false, false, false, false, false, false, true, true, false, false, false, false, false, true, true, true, true, true, true, true, true, true, true, true, true, true, true, true, true, true, true, true, true, true, true, true, true, true, true, true, true, true, false] (fun k => [(7, .d (.int ((k : Int) + 1))), (1, .d (.int (rndTo N.os r0 k).seed)), (6, .own 4 0 k)]) (fun k => [(1, [.own 2 0 (rndTo N.os r0 k).s.all.length, .own 3 0 (rndTo N.os r0 k).s.gone.length]), (2, shA T (rndTo N.os r0 k).s.all), (3, bv (rndTo N.os r0 k).s.gone), (4, iv (flatP (rndTo N.os r0 k).ps))]) (fun _ => by (simp only [go_sem, seval, reduceCtorEq, dropF_ch, dropF_cons, dropF_nil, cut, cond_true, cond_false]); first | done | rfl) (fun _ => by (simp only [go_sem, seval, reduceCtorEq, cut]); first | done | rfl) (Nat.le_of_ble_eq_true rfl) (by first | (simp only [go_sem, seval, reduceCtorEq, dropF_ch, dropF_cons, dropF_nil, cut, cond_true, cond_false, Int.natCast_zero, Int.natCast_add, Int.natCast_one, hz1, hz2, hz3, hz4, iv_nil, Int.zero_add]; done) | rfl | (simp only [go_sem, seval, reduceCtorEq, dropF_ch, dropF_cons, dropF_nil, cut, cond_true, cond_false, Int.natCast_zero, Int.natCast_add, Int.natCast_one, hz1, hz2, hz3, hz4, iv_nil, Int.zero_add]; rfl)) (by first | (simp only [go_sem, seval, reduceCtorEq, dropF_ch, dropF_cons, dropF_nil, cut, cond_true, cond_false, Int.natCast_zero, Int.natCast_add, Int.natCast_one, hz1, hz2, hz3, hz4, iv_nil, Int.zero_add]; done) | rfl | (simp only [go_sem, seval, reduceCtorEq, dropF_ch, dropF_cons, dropF_nil, cut, cond_true, cond_false, Int.natCast_zero, Int.natCast_add, Int.natCast_one, hz1, hz2, hz3, hz4, iv_nil, Int.zero_add]; rfl)) fun k hk => ?_
  unfold L0_spec_RandomOrder
  have hpsl := rndTo_ps N.os r0 k
  rw [hz5, Nat.zero_add] at hpsl
  have hfl := flatP_len (rndTo N.os r0 k).ps
  by_cases hlt : k < N.ts.length - 1
  · have d1 : (k : Int) + 1 < N.ts.length := by omega
    have hR0 := rnd_init (x := x) hok (by omega)
    rw [hr0] at hR0
    have hR := rndTo_ok hR0 k (by omega)
    rw [show N.ts.length - 1 + 1 - k = (N.ts.length - k - 2) + 2 by omega] at hR
    have hTk := rndTo_T hR0 (by rw [← hr0]; exact hT) k (by omega)
    obtain ⟨c, hc, e1, e2, e3⟩ := rnd_pick hR.n (nextSeed (rndTo N.os r0 k).seed)
    have hm1 := prs_mem e3
    have hn1 := nums_mem.1 hm1.1
    have hn2 := nums_mem.1 hm1.2
    have hal := hR.ok.n
    have hnx : rndTo N.os r0 (k + 1) = ⟨(rndTo N.os r0 k).s.step N.os (prs (rndTo N.os r0 k).s.nums)[c].1 (prs (rndTo N.os r0 k).s.nums)[c].2, nextSeed (rndTo N.os r0 k).seed, (rndTo N.os r0 k).ps ++ [(prs (rndTo N.os r0 k).s.nums)[c]]⟩ := by
      rw [rndTo, rndStep]
      simp only [e1, e2]
    have hxb := maskI_bd (1103515245 * maskI (rndTo N.os r0 k).seed + 12345)
    rw [show maskI (1103515245 * maskI (rndTo N.os r0 k).seed + 12345) = nextSeed (rndTo N.os r0 k).seed from rfl] at hxb
    have g := flatP_cut hc
    have hfp := flatP_len (prs (rndTo N.os r0 k).s.nums)
    generalize hr : rndTo N.os r0 k = r at *
    obtain ⟨xn, hxn⟩ : ∃ xn : Nat, nextSeed r.seed = xn := ⟨(nextSeed r.seed).toNat, by omega⟩
    rw [hxn, Int.toNat_natCast] at e1
    have t1 : (xn : Int).tdiv 65536 = ((xn / 65536 : Nat) : Int) := tdiv_nat xn 65536
    have t2 : ((xn / 65536 : Nat) : Int).tmod ((prs r.s.nums).length : Int) = (c : Int) := by rw [tmod_nat, e1]
    have t3 : ((prs r.s.nums).length : Int) ≠ 0 := by omega
    have t4 : (c : Int) < (prs r.s.nums).length := by omega
    have hta : List.take (r.s.all.length * 3) (shA T r.s.all) = shA T r.s.all := List.take_of_length_le (by rw [shA_len]; exact Nat.le_refl _)
    have hnx1 := congrArg Rnd.s hnx
    have hnx2 := congrArg Rnd.seed hnx
    have hnx3 := congrArg Rnd.ps hnx
    simp only at hnx1 hnx2 hnx3
    generalize hp : (prs r.s.nums)[c] = p at *
    have hrow := iv_flat r.ps p.1 p.2
    simp (disch := omega) only [go_sem, seval, reduceCtorEq, d1]
    (refine ti_call (l19Pairs_d (T := T) (s := r.s) hR.ok (by omega)) ?_ ?_ ?_; (focus (simp only [go_sem, seval, reduceCtorEq, osQ, hta, List.take_length]; done)); (first | rfl | (focus (simp only [go_sem]; done))))
    simp only [go_sem, seval, reduceCtorEq]
    (refine ti_call (sNextSeed_d r.seed) ?_ ?_ ?_; (focus (simp only [go_sem, seval, reduceCtorEq]; done)); (first | rfl | (focus (simp only [go_sem]; done))))
    simp (disch := omega) only [go_sem, seval, reduceCtorEq, hxn, t1, t2, t4, g, iv_two]
    refine ⟨t3, ?_⟩
    refine ⟨by omega, ?_⟩
    (refine ti_callcg [1, 2, 3] [2, 3] false (of_decide_eq_true rfl) ?_ _ ?_ (l17Step_d (T := T) (os := N.os) (s := r.s) (a := p.1) (b := p.2) hR.ok (by omega) (by omega) (by omega) (by omega) (fun i _ => hTk i)) ?_ ?_; (focus (simp only [go_sem, seval, reduceCtorEq, stoQ]; done)); (focus (simp only [go_sem, seval, reduceCtorEq, stoQ]; done)); (focus (first | rfl | (simp only [go_sem, seval, reduceCtorEq, stoQ]; done))))
    simp (disch := omega) only [go_sem, seval, reduceCtorEq, stoQ]
    (repeat (refine And.intro (by omega) ?_))
    simp only [hrow, ← hnx1]
    (refine Next.drop [false, false, false, false, false, false, false, false, true, true, false, false, false, false, false, true, true, true, true, true, true, true, true, true, true, true, true, true, true, true, true, true, true, true, true, true, true, true, true, true, true, true, true, true, false] (by omega) (Nat.le_of_ble_eq_true rfl) ?_ ?_ <;> first | (simp only [go_sem, seval, reduceCtorEq, dropF_ch, dropF_cons, dropF_nil, cut, cond_true, cond_false, Int.natCast_zero, Int.natCast_add, Int.natCast_one, hnx2, hnx3, hxn]; done) | rfl | (simp only [go_sem, seval, reduceCtorEq, dropF_ch, dropF_cons, dropF_nil, cut, cond_true, cond_false, Int.natCast_zero, Int.natCast_add, Int.natCast_one, hnx2, hnx3, hxn]; rfl) | skip)
  · have d1 : ¬ (k : Int) + 1 < N.ts.length := by omega
    obtain rfl : k = N.ts.length - 1 := by omega
    simp (disch := omega) only [go_sem, seval, reduceCtorEq, d1]
    (refine FnEnd.mk (Nat.le_of_ble_eq_true rfl) rfl (of_decide_eq_true rfl) ?_ ?_ <;> try simp only [go_sem, seval, reduceCtorEq])
/-! ### By the program -/
theorem randomSteps_d {N : Net} {T os : List Int} {x : Int} {r0 : Rnd} {m q : Nat} (hD : T.length = 100) (h : RndOk os r0 m (q + 1)) (hm : m + q ≤ 1000) (ho : os.length ≤ 1048576) (hx : r0.seed = x) (hp : r0.ps = []) :
    Does Try.prog 120 [.ptr 0 0, .d (.int x)] [osR T os r0.s] (.tup [.own 1 0 q, .d (.int (rndTo os r0 q).seed)]) [osR T os (rndTo os r0 q).s, some ⟨2, true, iv (flatP (rndTo os r0 q).ps)⟩] := by
  (refine spec_of (by kernel_rfl) Try.func120 k_impl_randomSteps (fnOk (Nat.le_of_ble_eq_true rfl) ?_); unfold C_impl_randomSteps)
  simp only [osR, lvS]
  (simp only [Nat.reduceSub, List.length_cons, List.length_nil, Nat.reduceAdd, ch_init1, ch_init2, ch_init3, ch_init4, ch_init5, ch_init6, ch_init7, ch_init8]; try simp only [ch_rep]); (simp only [go_sem, seval, reduceCtorEq, List.replicate])
  (refine wpN_lwk (Wk.nilE 6 2 _ _ rfl) ?_; simp only [go_sem, seval, reduceCtorEq])
  have hz1 : rndTo os r0 0 = r0 := rfl
  have hz4 : flatP r0.ps = [] := by rw [hp]; rfl
  refine wpN_lp (q) [false, false, false, false, false, false, false, true, true, true, true, true, true, true, true, true, true, true, true, true, true, true, true, true, true, true, true, true, true, true, true, true, true, true, true, true, true, true, true, true, true, true, true, true, true, true, true, true, true, true, true, true, true, true, true, false, false] (fun k => [(1, .d (.int (rndTo os r0 k).seed)), (6, .own 1 0 k)]) (fun k => [(0, osB T (.d (ints os)) (.d (lvS (rndTo os r0 k).s)) (.d (.int (rndTo os r0 k).s.all.length))), (1, iv (flatP (rndTo os r0 k).ps))]) (fun _ => by (simp only [go_sem, seval, reduceCtorEq, dropF_ch, dropF_cons, dropF_nil, cut, cond_true, cond_false]); first | done | rfl) (fun _ => by (simp only [go_sem, seval, reduceCtorEq, cut]); first | done | rfl) (Nat.le_of_ble_eq_true rfl) (by first | (simp only [go_sem, seval, reduceCtorEq, dropF_ch, dropF_cons, dropF_nil, cut, cond_true, cond_false, Int.natCast_zero, Int.natCast_add, Int.natCast_one, hz1, hx, hz4, iv_nil, lvS]; done) | rfl | (simp only [go_sem, seval, reduceCtorEq, dropF_ch, dropF_cons, dropF_nil, cut, cond_true, cond_false, Int.natCast_zero, Int.natCast_add, Int.natCast_one, hz1, hx, hz4, iv_nil, lvS]; rfl)) (by first | (simp only [go_sem, seval, reduceCtorEq, dropF_ch, dropF_cons, dropF_nil, cut, cond_true, cond_false, Int.natCast_zero, Int.natCast_add, Int.natCast_one, hz1, hx, hz4, iv_nil, lvS]; done) | rfl | (simp only [go_sem, seval, reduceCtorEq, dropF_ch, dropF_cons, dropF_nil, cut, cond_true, cond_false, Int.natCast_zero, Int.natCast_add, Int.natCast_one, hz1, hx, hz4, iv_nil, lvS]; rfl)) fun k hk => ?_
  unfold L1_impl_randomSteps
  have hpsl := rndTo_ps os r0 k
  rw [hp, List.length_nil, Nat.zero_add] at hpsl
  have hfl := flatP_len (rndTo os r0 k).ps
  have hR := rndTo_ok h k hk
  have hn := hR.n
  have hal := hR.ok.n
  by_cases hlt : k < q
  · have d1' : (rndTo os r0 k).s.nums.length > 1 := by omega
    rw [show q + 1 - k = (q - k - 1) + 2 by omega] at hR
    obtain ⟨c, hc, e1, e2, e3⟩ := rnd_pick hR.n (nextSeed (rndTo os r0 k).seed)
    have hnx : rndTo os r0 (k + 1) = ⟨(rndTo os r0 k).s.step os (prs (rndTo os r0 k).s.nums)[c].1 (prs (rndTo os r0 k).s.nums)[c].2, nextSeed (rndTo os r0 k).seed, (rndTo os r0 k).ps ++ [(prs (rndTo os r0 k).s.nums)[c]]⟩ := by
      rw [rndTo, rndStep]
      simp only [e1, e2]
    have hxb := maskI_bd (1103515245 * maskI (rndTo os r0 k).seed + 12345)
    rw [show maskI (1103515245 * maskI (rndTo os r0 k).seed + 12345) = nextSeed (rndTo os r0 k).seed from rfl] at hxb
    generalize hr : rndTo os r0 k = r at *
    obtain ⟨xn, hxn⟩ : ∃ xn : Nat, nextSeed r.seed = xn := ⟨(nextSeed r.seed).toNat, by omega⟩
    rw [hxn, Int.toNat_natCast] at e1
    have hMn := hR.n
    obtain ⟨M, hM⟩ : ∃ M, r.s.nums.length = M := ⟨_, rfl⟩
    have hhalf := prs_half (l := r.s.nums) (by omega)
    rw [hM] at hhalf
    have hM1 : ((M : Int) * ((M : Int) - 1)) = ((M * (M - 1) : Nat) : Int) := by
      have hM2 : 1 ≤ M := by omega
      rw [Int.natCast_mul, Int.natCast_sub hM2]; rfl
    have hMb : M * (M - 1) ≤ 1001 * 1000 := Nat.mul_le_mul (by omega) (by omega)
    have t1 : (xn : Int).tdiv 65536 = ((xn / 65536 : Nat) : Int) := tdiv_nat xn 65536
    have t5 : ((M * (M - 1) : Nat) : Int).tdiv 2 = ((prs r.s.nums).length : Int) := by rw [hhalf]; exact tdiv_nat _ 2
    have t2 : ((xn / 65536 : Nat) : Int).tmod ((prs r.s.nums).length : Int) = (c : Int) := by rw [tmod_nat, e1]
    have t3 : ((prs r.s.nums).length : Int) ≠ 0 := by omega
    have d1 : (M : Int) > 1 := by omega
    simp (disch := omega) only [go_sem, seval, reduceCtorEq, lvS, hM, d1]
    (refine ti_call (iNextSeed_d r.seed) ?_ ?_ ?_; (focus (simp only [go_sem, seval, reduceCtorEq]; done)); (first | rfl | (focus (simp only [go_sem]; done))))
    simp (disch := omega) only [go_sem, seval, reduceCtorEq, hxn, hM, t1, hM1, t5, t2]
    refine ⟨t3, ?_⟩
    have hpl := prs_len r.s.nums
    rw [hM] at hpl
    have hc0 : cRow M 0 = 0 := rfl
    refine wpN_lpI (M - 1) [false, false, false, false, false, false, false, false, false, false, false, false, false, false, false, false, false, false, false, false, false, false, false, false, false, false, false, false, false, false, false, true, true, true, true, true, true, true, true, true, true, true, true, true, true, false, false, false, false, false, false, false, false, false, false, false, false] (fun i => cRow M i ≤ c) (fun i => [(8, .d (.int ((c : Int) - cRow M i))), (9, .d (.int i))]) (fun i => []) (fun _ => by (simp only [go_sem, seval, reduceCtorEq, dropF_ch, dropF_cons, dropF_nil, cut, cond_true, cond_false]); first | done | rfl) (fun _ => by (simp only [go_sem, seval, reduceCtorEq, cut]); first | done | rfl) (by omega) (Nat.le_of_ble_eq_true rfl) (by first | (simp only [go_sem, seval, reduceCtorEq, dropF_ch, dropF_cons, dropF_nil, cut, cond_true, cond_false, Int.natCast_zero, Int.natCast_add, Int.natCast_one, hc0, Int.natCast_zero, Int.sub_zero]; done) | rfl | (simp only [go_sem, seval, reduceCtorEq, dropF_ch, dropF_cons, dropF_nil, cut, cond_true, cond_false, Int.natCast_zero, Int.natCast_add, Int.natCast_one, hc0, Int.natCast_zero, Int.sub_zero]; rfl)) (by first | (simp only [go_sem, seval, reduceCtorEq, dropF_ch, dropF_cons, dropF_nil, cut, cond_true, cond_false, Int.natCast_zero, Int.natCast_add, Int.natCast_one, hc0, Int.natCast_zero, Int.sub_zero]; done) | rfl | (simp only [go_sem, seval, reduceCtorEq, dropF_ch, dropF_cons, dropF_nil, cut, cond_true, cond_false, Int.natCast_zero, Int.natCast_add, Int.natCast_one, hc0, Int.natCast_zero, Int.sub_zero]; rfl)) fun i hi hii => ?_
    unfold L0_impl_randomSteps
    have hsucc : cRow M (i + 1) = cRow M i + (M - 1 - i) := rfl
    by_cases hge : (c : Int) - cRow M i ≥ (M : Int) - 1 - i
    · have hi1 : i < M - 1 := by
        rcases Nat.lt_or_ge i (M - 1) with h | h
        · exact h
        · have : i = M - 1 := by omega
          rw [this] at hii
          omega
      have hq1 : (c : Int) - cRow M i - (M - 1 - i) = c - cRow M (i + 1) := by rw [hsucc]; push_cast; omega
      have hI : cRow M (i + 1) ≤ c := by rw [hsucc]; omega
      simp (disch := omega) only [go_sem, seval, reduceCtorEq, hge]
      (refine NextI.drop [false, false, false, false, false, false, false, false, false, false, false, false, false, false, false, false, false, false, false, false, false, false, false, false, false, false, false, false, false, false, false, true, true, true, true, true, true, true, true, true, true, true, true, true, true, false, false, false, false, false, false, false, false, false, false, false, false] (by omega) (hI) (Nat.le_of_ble_eq_true rfl) ?_ ?_ <;> first | (simp only [go_sem, seval, reduceCtorEq, dropF_ch, dropF_cons, dropF_nil, cut, cond_true, cond_false, Int.natCast_zero, Int.natCast_add, Int.natCast_one, hq1]; done) | rfl | (simp only [go_sem, seval, reduceCtorEq, dropF_ch, dropF_cons, dropF_nil, cut, cond_true, cond_false, Int.natCast_zero, Int.natCast_add, Int.natCast_one, hq1]; rfl) | skip)
    · have hi1 : i < M - 1 := by omega
      obtain ⟨j, hj⟩ : ∃ j : Nat, j = i + 1 + (c - cRow M i) := ⟨_, rfl⟩
      have hjM : j < r.s.nums.length := by omega
      have hiM : i < r.s.nums.length := by omega
      have hrow := prs_row r.s.nums i (c - cRow M i) hiM (by omega)
      have hce : cRow r.s.nums.length i + (c - cRow M i) = c := by rw [hM]; omega
      rw [hce, List.getElem?_eq_getElem hc] at hrow
      have hp1 : r.s.nums[i] = (prs r.s.nums)[c].1 := by rw [Option.some.inj hrow]
      have hp2 : r.s.nums[j] = (prs r.s.nums)[c].2 := by
        have : (prs r.s.nums)[c].2 = r.s.nums[i + 1 + (c - cRow M i)] := by rw [Option.some.inj hrow]
        rw [this]
        congr 1
      have hct := orderState_contract_d (D := T) (os := os) (s := r.s) hD hR.ok (by omega) ho hiM hjM
      rw [hp1, hp2] at hct
      have hnx1 := congrArg Rnd.s hnx
      have hnx2 := congrArg Rnd.seed hnx
      have hnx3 := congrArg Rnd.ps hnx
      simp only at hnx1 hnx2 hnx3
      rw [← hnx1] at hct
      generalize hp : (prs r.s.nums)[c] = p at *
      have hrw := iv_flat r.ps p.1 p.2
      have hj2 : (i : Int) + 1 + (c - cRow M i) = j := by omega
      simp (disch := omega) only [go_sem, seval, reduceCtorEq, hge, hj2]
      (refine ti_callcg [0] [] false (of_decide_eq_true rfl) ?_ _ ?_ (hct) ?_ ?_; (focus (simp only [go_sem, seval, reduceCtorEq, osR, lvS, hM]; done)); (focus (simp only [go_sem, seval, reduceCtorEq, osR, lvS, hM]; done)); (focus (first | rfl | (simp only [go_sem, seval, reduceCtorEq, osR, lvS, hM]; done))))
      simp (disch := omega) only [go_sem, seval, reduceCtorEq, osR, lvS]
      (repeat (refine And.intro (by omega) ?_))
      simp only [hrw]
      (refine Next.drop [false, false, false, false, false, false, false, true, true, true, true, true, true, true, true, true, true, true, true, true, true, true, true, true, true, true, true, true, true, true, true, true, true, true, true, true, true, true, true, true, true, true, true, true, true, true, true, true, true, true, true, true, true, true, true, false, false] (by omega) (Nat.le_of_ble_eq_true rfl) ?_ ?_ <;> first | (simp only [go_sem, seval, reduceCtorEq, dropF_ch, dropF_cons, dropF_nil, cut, cond_true, cond_false, Int.natCast_zero, Int.natCast_add, Int.natCast_one, hnx2, hnx3, hxn, lvS]; done) | rfl | (simp only [go_sem, seval, reduceCtorEq, dropF_ch, dropF_cons, dropF_nil, cut, cond_true, cond_false, Int.natCast_zero, Int.natCast_add, Int.natCast_one, hnx2, hnx3, hxn, lvS]; rfl) | skip)
  · have d1 : ¬ ((rndTo os r0 k).s.nums.length : Int) > 1 := by omega
    obtain rfl : k = q := by omega
    simp (disch := omega) only [go_sem, seval, reduceCtorEq, d1, lvS]
    (refine FnEnd.mk (Nat.le_of_ble_eq_true rfl) rfl (of_decide_eq_true rfl) ?_ ?_ <;> try simp only [go_sem, seval, reduceCtorEq])
theorem randomSteps_0 {T os : List Int} {x : Int} {r0 : Rnd} (hD : T.length = 100) (h : r0.s.nums.length = 0) (hx : r0.seed = x) :
    Does Try.prog 120 [.ptr 0 0, .d (.int x)] [osR T os r0.s] (.tup [.own 1 0 0, .d (.int r0.seed)]) [osR T os r0.s, some ⟨2, true, []⟩] := by
  (refine spec_of (by kernel_rfl) Try.func120 k_impl_randomSteps (fnOk (Nat.le_of_ble_eq_true rfl) ?_); unfold C_impl_randomSteps)
  simp only [osR, lvS, h]
  (simp only [Nat.reduceSub, List.length_cons, List.length_nil, Nat.reduceAdd, ch_init1, ch_init2, ch_init3, ch_init4, ch_init5, ch_init6, ch_init7, ch_init8]; try simp only [ch_rep]); (simp only [go_sem, seval, reduceCtorEq, List.replicate])
  (refine wpN_lwk (Wk.nilE 6 2 _ _ rfl) ?_; simp only [go_sem, seval, reduceCtorEq])
  refine wpN_lp (0) [false, false, false, false, false, false, false, true, true, true, true, true, true, true, true, true, true, true, true, true, true, true, true, true, true, true, true, true, true, true, true, true, true, true, true, true, true, true, true, true, true, true, true, true, true, true, true, true, true, true, true, true, true, true, true, false, false] (fun k => [(1, .d (.int r0.seed)), (6, .own 1 0 0)]) (fun k => [(0, osB T (.d (ints os)) (.d (.sl 0 (lvD r0.s.lab r0.s.nums))) (.d (.int r0.s.all.length))), (1, [])]) (fun _ => by (simp only [go_sem, seval, reduceCtorEq, dropF_ch, dropF_cons, dropF_nil, cut, cond_true, cond_false]); first | done | rfl) (fun _ => by (simp only [go_sem, seval, reduceCtorEq, cut]); first | done | rfl) (Nat.le_of_ble_eq_true rfl) (by first | (simp only [go_sem, seval, reduceCtorEq, dropF_ch, dropF_cons, dropF_nil, cut, cond_true, cond_false, Int.natCast_zero, Int.natCast_add, Int.natCast_one, hx]; done) | rfl | (simp only [go_sem, seval, reduceCtorEq, dropF_ch, dropF_cons, dropF_nil, cut, cond_true, cond_false, Int.natCast_zero, Int.natCast_add, Int.natCast_one, hx]; rfl)) (by first | (simp only [go_sem, seval, reduceCtorEq, dropF_ch, dropF_cons, dropF_nil, cut, cond_true, cond_false, Int.natCast_zero, Int.natCast_add, Int.natCast_one, hx]; done) | rfl | (simp only [go_sem, seval, reduceCtorEq, dropF_ch, dropF_cons, dropF_nil, cut, cond_true, cond_false, Int.natCast_zero, Int.natCast_add, Int.natCast_one, hx]; rfl)) fun k hk => ?_
  unfold L1_impl_randomSteps
  have d1 : ¬ (0 : Int) > 1 := by omega
  simp (disch := omega) only [go_sem, seval, reduceCtorEq, d1, hx, Int.natCast_zero]
  (refine FnEnd.mk (Nat.le_of_ble_eq_true rfl) rfl (of_decide_eq_true rfl) ?_ ?_ <;> try simp only [go_sem, seval, reduceCtorEq])
noncomputable def rndN (N : Net) : Nat := if netOk N = true then N.ts.length - 1 else 0
noncomputable def rndF (N : Net) (x : Int) : List Int := if netOk N = true then flatP (rndTo N.os ⟨osInit N.ts, x, []⟩ (N.ts.length - 1)).ps else []
theorem sRandomOrder_d {N : Net} {x : Int} (h : NSz 1048576 N) : Does Try.prog 55 [netA N, .d (.int x)] [] (.own 0 0 (rndN N)) [some ⟨2, true, iv (rndF N x)⟩] := by
  cases hok : netOk N
  · have e1 : rndN N = 0 := by simp [rndN, hok]
    have e2 : rndF N x = [] := by simp [rndF, hok]
    rw [e1, e2]
    (refine spec_of (by kernel_rfl) Try.func55 k_spec_RandomOrder (fnOk (Nat.le_of_ble_eq_true rfl) ?_); unfold C_spec_RandomOrder)
    (simp only [Nat.reduceSub, List.length_cons, List.length_nil, Nat.reduceAdd, ch_init1, ch_init2, ch_init3, ch_init4, ch_init5, ch_init6, ch_init7, ch_init8]; try simp only [ch_rep]); (simp only [go_sem, seval, reduceCtorEq, List.replicate])
    (refine ti_call (sNetworkOk_d h) ?_ ?_ ?_; (focus (simp only [go_sem, seval, reduceCtorEq]; done)); (first | rfl | (focus (simp only [go_sem]; done))))
    simp only [go_sem, seval, reduceCtorEq, hok]
    refine FnEnd.wk (Wk.nilE 4 2 _ _ rfl) ?_
    (refine FnEnd.mk (Nat.le_of_ble_eq_true rfl) rfl (of_decide_eq_true rfl) ?_ ?_ <;> try simp only [go_sem, seval, reduceCtorEq])
  · have e1 : rndN N = N.ts.length - 1 := by simp [rndN, hok]
    have e2 : rndF N x = flatP (rndTo N.os ⟨osInit N.ts, x, []⟩ (N.ts.length - 1)).ps := by simp [rndF, hok]
    rw [e1, e2]
    exact sRandomOrder_o h hok
theorem iRandomOrder_d {N : Net} {x : Int} (h : NSz 1048576 N) : Does Try.prog 56 [netA N, .d (.int x)] [] (.own 0 0 (rndN N)) [some ⟨2, true, iv (rndF N x)⟩] := by
  have hD := dimsR_len N.ts
  have hol := h.o.len
  (refine spec_of (by kernel_rfl) Try.func56 k_impl_RandomOrder (fnOk (Nat.le_of_ble_eq_true rfl) ?_); unfold C_impl_RandomOrder)
  (simp only [Nat.reduceSub, List.length_cons, List.length_nil, Nat.reduceAdd, ch_init1, ch_init2, ch_init3, ch_init4, ch_init5, ch_init6, ch_init7, ch_init8]; try simp only [ch_rep]); (simp only [go_sem, seval, reduceCtorEq, List.replicate])
  (refine ti_call (iNetworkOk_d h) ?_ ?_ ?_; (focus (simp only [go_sem, seval, reduceCtorEq]; done)); (first | rfl | (focus (simp only [go_sem]; done))))
  cases hok : netOk N
  · have e1 : rndN N = 0 := by simp [rndN, hok]
    have e2 : rndF N x = [] := by simp [rndF, hok]
    simp only [go_sem, seval, reduceCtorEq, hok, e1, e2, iv_nil]
    refine FnEnd.wk (Wk.nilE 4 2 _ _ rfl) ?_
    (refine FnEnd.mk (Nat.le_of_ble_eq_true rfl) rfl (of_decide_eq_true rfl) ?_ ?_ <;> try simp only [go_sem, seval, reduceCtorEq])
  have h12 := (netOk_iff.1 hok).2.1
  have e1 : rndN N = N.ts.length - 1 := by simp [rndN, hok]
  have e2 : rndF N x = flatP (rndTo N.os ⟨osInit N.ts, x, []⟩ (N.ts.length - 1)).ps := by simp [rndF, hok]
  simp only [go_sem, seval, reduceCtorEq, hok]
  (refine ti_call (startState_d h hok) ?_ ?_ ?_; (focus (simp only [go_sem, seval, reduceCtorEq, osR, lvS]; done)); (first | rfl | (focus (simp only [go_sem]; done))))
  simp only [go_sem, seval, reduceCtorEq, osR, lvS]
  by_cases h0 : N.ts.length = 0
  · have hz := randomSteps_0 (T := (dimsR N.ts).1) (os := N.os) (x := x) (r0 := ⟨osInit N.ts, x, []⟩) hD (by rw [osInit_nums, List.length_range, h0]) rfl
    have e3 : rndN N = 0 := by omega
    have e4 : rndF N x = [] := by rw [e2, h0]; rfl
    (refine ti_callcg [1] [] false (of_decide_eq_true rfl) ?_ _ ?_ (hz) ?_ ?_; (focus (simp only [go_sem, seval, reduceCtorEq, osR, lvS]; done)); (focus (simp only [go_sem, seval, reduceCtorEq, osR, lvS]; done)); (focus (first | rfl | (simp only [go_sem, seval, reduceCtorEq, osR, lvS]; done))))
    simp only [go_sem, seval, reduceCtorEq, osR, e3, e4, iv_nil, List.getElem?_nil, or_self]
    (refine FnEnd.mk (Nat.le_of_ble_eq_true rfl) rfl (of_decide_eq_true rfl) ?_ ?_ <;> try simp only [go_sem, seval, reduceCtorEq])
  · have hz := randomSteps_d (N := N) (T := (dimsR N.ts).1) (os := N.os) (x := x) (r0 := ⟨osInit N.ts, x, []⟩) hD (rnd_init hok (by omega)) (by omega) (by omega) rfl rfl
    (refine ti_callcg [1] [] false (of_decide_eq_true rfl) ?_ _ ?_ (hz) ?_ ?_; (focus (simp only [go_sem, seval, reduceCtorEq, osR, lvS]; done)); (focus (simp only [go_sem, seval, reduceCtorEq, osR, lvS]; done)); (focus (first | rfl | (simp only [go_sem, seval, reduceCtorEq, osR, lvS]; done))))
    simp only [go_sem, seval, reduceCtorEq, osR, e1, e2, List.getElem?_nil, or_self]
    (refine FnEnd.mk (Nat.le_of_ble_eq_true rfl) rfl (of_decide_eq_true rfl) ?_ ?_ <;> try simp only [go_sem, seval, reduceCtorEq])
theorem rndF_sz {N : Net} {x : Int} : StpSz 1048576 (rndN N) (rndF N x) := by
  cases hok : netOk N
  · simp only [rndN, rndF, hok]
    exact ⟨by simp, by simp, by simp⟩
  · have h12 := (netOk_iff.1 hok).2.1
    have e1 : rndN N = N.ts.length - 1 := by simp [rndN, hok]
    have e2 : rndF N x = flatP (rndTo N.os ⟨osInit N.ts, x, []⟩ (N.ts.length - 1)).ps := by simp [rndF, hok]
    have h3 := rndTo_ps N.os ⟨osInit N.ts, x, []⟩ (N.ts.length - 1)
    refine ⟨by rw [e1, e2, flatP_len, h3]; simp, by omega, fun y hy => ?_⟩
    rw [e2] at hy
    simp only [flatP, List.mem_flatMap, List.mem_cons, List.not_mem_nil, or_false] at hy
    obtain ⟨p, hp, hy⟩ := hy
    have hb : ∀ k, k ≤ N.ts.length - 1 → ∀ p ∈ (rndTo N.os ⟨osInit N.ts, x, []⟩ k).ps, p.1 ≤ 1000 ∧ p.2 ≤ 1000 := by
      intro k
      induction k with
      | zero => intro _ p hp; cases hp
      | succ k ih =>
        intro hk p hp
        rw [rndTo, rndStep] at hp
        simp only [List.mem_append, List.mem_singleton] at hp
        rcases hp with hp | rfl
        · exact ih (by omega) p hp
        · have hR := rndTo_ok (rnd_init (x := x) hok (by omega)) k (by omega)
          rw [show N.ts.length - 1 + 1 - k = (N.ts.length - k - 2) + 2 by omega] at hR
          obtain ⟨c, hc, e1, e2, e3⟩ := rnd_pick hR.n (nextSeed (rndTo N.os ⟨osInit N.ts, x, []⟩ k).seed)
          rw [e1, e2]
          have hm1 := prs_mem e3
          have hn1 := nums_mem.1 hm1.1
          have hn2 := nums_mem.1 hm1.2
          have hal := hR.ok.n
          omega
    have := hb _ (Nat.le_refl _) p hp
    rcases hy with rfl | rfl <;> exact ⟨by omega, by omega⟩
end Go.Proofs.Ytcgnehacihjnkaa
