/-
  Contracts: an int's text, texts joined, an element's text. No condition.
-/
import Derived.Test.YtodlbhjnmdhjiaaDoorStr
import Derived.Test.YtodlbhjnmdhjiaaDoorShf
import Derived.Test.YtodlbhjnmdhjiaaDoorCode1
import Derived.Test.YtodlbhjnmdhjiaaDoorCoA
import Derived.Test.YtodlbhjnmdhjiaaDoorLiftH
import Derived.Test.YtodlbhjnmdhjiaaDoorArrA
namespace Go.Proofs.YtodlbhjnmdhjiaaDoor
open Go.RowKit Go.Lift Plain
set_option linter.unusedSimpArgs false
set_option linter.unusedVariables false
set_option maxRecDepth 100000

theorem below_gr (w : World) (k : Nat) (os : Array Obj) : Below w.heap.size w (Sort.grow (w.drewN k) os) :=
  ⟨rfl, rfl, rfl, by simp [Sort.grow, World.drewN], fun i hi => by simp [Sort.grow, World.drewN, Array.getElem?_append, hi]⟩
theorem libItoa_d {n : Int} (h : I64 n) : Does Tryd.prog 35 [.d (.int n)] [] (.d (.str (itoaB n))) [] :=
  Does.of_callsA (rv_str _) fun w γ φ vals hA hr => by
    obtain ⟨_, rfl, h0⟩ := rel1 hr
    obtain rfl := rel_int h0
    obtain ⟨h1, cur, T, f, h2, h3⟩ := hA 0 _ (List.mem_singleton.2 rfl)
    have hg : Tryd.prog.globalNamed "internal/strconv.uint64pow10" = some 0 := by kernel_rfl
    have htab : Lib.TabIs Tryd.prog w "internal/strconv.uint64pow10" .u64 Lib.pow10Tab := by
      unfold Lib.TabIs World.var?
      rw [hg]
      simp only [Option.bind_some, h3]
      rw [← h2, Array.toArray_toList]
    refine (Tryd.strconv_Itoa n h.1 h.2 w htab).mono fun e w' hq => ?_
    obtain ⟨rfl, k, os, rfl⟩ := hq
    exact ⟨rfl, below_gr w k os⟩
theorem libJoin_d {xs : List ByteArray} {sep : ByteArray} (hn : xs.length ≤ 140737488355328) (hl : (joinB xs sep).size ≤ 140737488355328) : Does Tryd.prog 36 [.d (strs xs), .d (.str sep)] [] (.d (.str (joinB xs sep))) [] :=
  Does.of_callsA (rv_str _) fun w γ φ vals hA hr => by
    obtain ⟨_, _, rfl, h0, h1⟩ := rel2 hr
    obtain rfl := rel_str h1
    simp only [Rel, strs, Rd] at h0
    obtain ⟨A, c, rfl, hc, h0⟩ := h0
    by_cases hx : xs = []
    · subst hx
      rw [joinB_nil]
      refine (Tryd.strings_Join_none A c sep w).mono fun e w' hq => ?_
      obtain ⟨rfl, rfl⟩ := hq
      exact ⟨rfl, Below.refl _ _⟩
    · obtain ⟨b, o, rfl, hI, hr⟩ := h0.resolve_left (fun e => hx (List.eq_nil_of_length_eq_zero e.1))
      exact Tryd.strings_Join b o c xs sep w (rdL_strs hr) hI.1 hn hc (by rw [ba_size] at hl; exact hl)
theorem iFormatInt_d {n : Int} (h : I64 n) : Does Tryd.prog 19 [.d (.int n)] [] (.d (.str (itoaB n))) [] := by
  (refine spec_of (by kernel_rfl) Tryd.func19 k_impl_FormatInt (fnOk (Nat.le_of_ble_eq_true rfl) ?_); unfold C_impl_FormatInt)
  (simp only [Nat.reduceSub, List.length_cons, List.length_nil, Nat.reduceAdd, ch_init1, ch_init2, ch_init3, ch_init4, ch_init5, ch_init6, ch_init7, ch_init8]; try simp only [ch_rep]); (simp only [go_sem, seval, reduceCtorEq, List.replicate])
  (refine ti_call (libItoa_d h) ?_ ?_ ?_; (focus (simp only [go_sem, seval, reduceCtorEq]; done)); (first | rfl | (focus (simp only [go_sem]; done))))
  (refine FnEnd.mk (Nat.le_of_ble_eq_true rfl) rfl (of_decide_eq_true rfl) ?_ ?_ <;> try simp only [go_sem, seval, reduceCtorEq])
theorem iJoin_d {xs : List ByteArray} {sep : ByteArray} (hn : xs.length ≤ 140737488355328) (hl : (joinB xs sep).size ≤ 140737488355328) : Does Tryd.prog 23 [.d (strs xs), .d (.str sep)] [] (.d (.str (joinB xs sep))) [] := by
  (refine spec_of (by kernel_rfl) Tryd.func23 k_impl_Join (fnOk (Nat.le_of_ble_eq_true rfl) ?_); unfold C_impl_Join)
  (simp only [Nat.reduceSub, List.length_cons, List.length_nil, Nat.reduceAdd, ch_init1, ch_init2, ch_init3, ch_init4, ch_init5, ch_init6, ch_init7, ch_init8]; try simp only [ch_rep]); (simp only [go_sem, seval, reduceCtorEq, List.replicate])
  (refine ti_call (libJoin_d hn hl) ?_ ?_ ?_; (focus (simp only [go_sem, seval, reduceCtorEq]; done)); (first | rfl | (focus (simp only [go_sem]; done))))
  (refine FnEnd.mk (Nat.le_of_ble_eq_true rfl) rfl (of_decide_eq_true rfl) ?_ ?_ <;> try simp only [go_sem, seval, reduceCtorEq])

/-! ### The reference's -/
theorem zeros_byte : Lift.zeros 1 [.d (.byte 0)] = [.d (.byte 0)] := nr rfl
theorem zeros_str : Lift.zeros 1 [.d (.str ⟨#[]⟩)] = [.d (.str ⟨#[]⟩)] := nr rfl
theorem cellsI_str (z : ByteArray) : cellsI [.d (.str z)] = some [.d (.str z)] := nr rfl
theorem cellsI_byte (z : Int) : cellsI [.d (.byte z)] = some [.d (.byte z)] := nr rfl
theorem one_le_one : (1 ≤ 1) = True := by simp
attribute [go_sem] zeros_byte zeros_str cellsI_byte cellsI_str one_le_one
theorem strOf_one (z : Int) : (strOf [z]).data.toList = [UInt8.ofNat z.toNat] := by simp [strOf, ByteArray.push, ByteArray.empty, ByteArray.emptyWithCapacity]; rfl
theorem strOf_size (z : Int) : (strOf [z]).size = 1 := by rw [ba_size, strOf_one]; rfl
theorem tmod10 (m : Nat) : (m : Int).tmod 10 = ((m % 10 : Nat) : Int) := by rw [Int.tmod_eq_emod_of_nonneg (by omega)]; omega
theorem tdiv10 (m : Nat) : (m : Int).tdiv 10 = ((m / 10 : Nat) : Int) := by rw [Int.tdiv_eq_ediv_of_nonneg (by omega)]; omega
theorem u8_in {z : Int} (h : 0 ≤ z ∧ z ≤ 255) : IntKind.u8.wrap z = z := by rw [IntKind.wrap_u8]; omega
/-- What stands at the loop's head. -/
def FmI (n m : Nat) (b : ByteArray) : Prop := Lib.decDigits n = Lib.decDigits m ++ b.data.toList ∧ 2 * b.size + m ≤ n
theorem FmI.step {n m : Nat} {b : ByteArray} (h : FmI n m b) (hm : 9 < m) : FmI n (m / 10) (strOf [48 + ((m % 10 : Nat) : Int)] ++ b) := by
  refine ⟨?_, ?_⟩
  · rw [h.1, Lib.decDigits, dif_neg (by omega), ba_app, strOf_one, List.append_assoc, show (48 + ((m % 10 : Nat) : Int)).toNat = 48 + m % 10 by omega]
  · have := h.2
    rw [ByteArray.size_append, strOf_size]
    omega
theorem FmI.done {n m : Nat} {b : ByteArray} (h : FmI n m b) (hm : ¬ 9 < m) : strOf [48 + ((m : Nat) : Int)] ++ b = itoaB n := by
  refine ba_ext ?_
  have h1 := h.1
  rw [ba_app, strOf_one, show (48 + ((m : Nat) : Int)).toNat = 48 + m by omega]
  rw [Lib.decDigits_one (i := m) (by omega)] at h1
  simp only [itoaB, Lib.itoa]
  rw [if_neg (by omega), show (n : Int).toNat = n by omega, h1]
theorem sFormatInt_d {n : Nat} (h : n ≤ 9223372036854775807) : Does Tryd.prog 12 [.d (.int n)] [] (.d (.str (itoaB n))) [] := by
  (refine spec_of (by kernel_rfl) Tryd.func12 k_spec_FormatInt (fnOk (Nat.le_of_ble_eq_true rfl) ?_); unfold C_spec_FormatInt)
  (simp only [Nat.reduceSub, List.length_cons, List.length_nil, Nat.reduceAdd, ch_init1, ch_init2, ch_init3, ch_init4, ch_init5, ch_init6, ch_init7, ch_init8]; try simp only [ch_rep]); (simp only [go_sem, seval, reduceCtorEq, List.replicate])
  have c0 : ¬ (n : Int) < 0 := by omega
  simp only [go_sem, seval, reduceCtorEq, c0]
  have hI0 : FmI n n ⟨#[]⟩ := ⟨by simp, by simp [ByteArray.size]⟩
  refine wpN_lpS (((n, ⟨#[]⟩) : Nat × ByteArray)) (fun s => s.1) [false, false, false, false, false, false, false, false, false, false, false, false, false, false, false, false, false, false, false, false, false, false, false, false, false, true, true, true, true, true, true, true, true, true, true, true, true, false, false, false, false, false, false, false] (fun s => FmI n s.1 s.2) (fun s => [(0, .d (.int (s.1 : Nat))), (3, .d (.str s.2))]) (fun s => []) (fun _ => by (simp only [go_sem, seval, reduceCtorEq, dropF_ch, dropF_cons, dropF_nil, cut, cond_true, cond_false]); first | done | rfl) (fun _ => by (simp only [go_sem, seval, reduceCtorEq, cut]); first | done | rfl) (hI0) (Nat.le_of_ble_eq_true rfl) (by first | (simp only [go_sem, seval, reduceCtorEq, dropF_ch, dropF_cons, dropF_nil, cut, cond_true, cond_false, Int.natCast_zero, Int.natCast_add, Int.natCast_one]; done) | rfl | (simp only [go_sem, seval, reduceCtorEq, dropF_ch, dropF_cons, dropF_nil, cut, cond_true, cond_false, Int.natCast_zero, Int.natCast_add, Int.natCast_one]; rfl)) (by first | (simp only [go_sem, seval, reduceCtorEq, dropF_ch, dropF_cons, dropF_nil, cut, cond_true, cond_false, Int.natCast_zero, Int.natCast_add, Int.natCast_one]; done) | rfl | (simp only [go_sem, seval, reduceCtorEq, dropF_ch, dropF_cons, dropF_nil, cut, cond_true, cond_false, Int.natCast_zero, Int.natCast_add, Int.natCast_one]; rfl)) fun s hi => ?_
  obtain ⟨m, b⟩ := s
  unfold L0_spec_FormatInt
  simp only at hi
  have hb := hi.2
  by_cases hlt : 9 < m
  · have d1 : (m : Int) > 9 := by omega
    have e1 := tmod10 m
    have e2 := tdiv10 m
    have e3 : IntKind.u8.wrap (48 + ((m % 10 : Nat) : Int)) = 48 + ((m % 10 : Nat) : Int) := u8_in (by omega)
    have e4 := strOf_size (48 + ((m % 10 : Nat) : Int))
    simp (disch := omega) only [go_sem, seval, reduceCtorEq, d1, e1, e2, e3, e4, Option.map_some]
    (repeat (refine And.intro (by omega) ?_))
    (refine NextS.drop [false, false, false, false, false, false, false, false, false, false, false, false, false, false, false, false, false, false, false, false, false, false, false, false, false, true, true, true, true, true, true, true, true, true, true, true, true, false, false, false, false, false, false, false] ((m / 10, strOf [48 + ((m % 10 : Nat) : Int)] ++ b)) (Nat.div_lt_self (by omega) (by omega)) (hi.step hlt) (Nat.le_of_ble_eq_true rfl) ?_ ?_ <;> first | (simp only [go_sem, seval, reduceCtorEq, dropF_ch, dropF_cons, dropF_nil, cut, cond_true, cond_false, Int.natCast_zero, Int.natCast_add, Int.natCast_one]; done) | rfl | (simp only [go_sem, seval, reduceCtorEq, dropF_ch, dropF_cons, dropF_nil, cut, cond_true, cond_false, Int.natCast_zero, Int.natCast_add, Int.natCast_one]; rfl) | skip)
  · have d1 : ¬ (m : Int) > 9 := by omega
    have e3 : IntKind.u8.wrap (48 + (m : Int)) = 48 + (m : Int) := u8_in (by omega)
    have e4 := strOf_size (48 + ((m : Nat) : Int))
    simp (disch := omega) only [go_sem, seval, reduceCtorEq, d1, e3, e4, Option.map_some, hi.done hlt]
    (repeat (refine And.intro (by omega) ?_))
    (refine FnEnd.mk (Nat.le_of_ble_eq_true rfl) rfl (of_decide_eq_true rfl) ?_ ?_ <;> try simp only [go_sem, seval, reduceCtorEq])
/-- The text so far. -/
theorem joinB_step {xs : List ByteArray} {k : Nat} (sep : ByteArray) (h : k < xs.length) : joinB (xs.take (k + 1)) sep = if k = 0 then xs[k] else joinB (xs.take k) sep ++ sep ++ xs[k] := by
  rw [List.take_succ_eq_append_getElem h, joinB_snoc]
  by_cases hk : k = 0
  · subst hk; simp
  · have : xs.take k ≠ [] := fun e => by have := congrArg List.length e; rw [List.length_take, List.length_nil] at this; omega
    rw [if_neg this, if_neg hk]
theorem joinB_mono {xs : List ByteArray} (sep : ByteArray) : ∀ (j k : Nat), k + j ≤ xs.length → (joinB (xs.take k) sep).size ≤ (joinB (xs.take (k + j)) sep).size
  | 0, k, _ => Nat.le_refl _
  | j + 1, k, h => by
    have h1 := joinB_mono sep (xs := xs) j k (by omega)
    have h2 := joinB_step (xs := xs) (k := k + j) sep (by omega)
    rw [show k + (j + 1) = k + j + 1 by omega, h2]
    split
    · rename_i e
      have : k = 0 := by omega
      subst this
      have : j = 0 := by omega
      subst this
      rw [List.take_zero, joinB_nil]
      exact Nat.zero_le _
    · simp only [ByteArray.size_append]; omega
theorem sJoin_d {xs : List ByteArray} {sep : ByteArray} (hn : xs.length ≤ 140737488355328) (hl : (joinB xs sep).size ≤ 140737488355328) : Does Tryd.prog 16 [.d (strs xs), .d (.str sep)] [] (.d (.str (joinB xs sep))) [] := by
  (refine spec_of (by kernel_rfl) Tryd.func16 k_spec_Join (fnOk (Nat.le_of_ble_eq_true rfl) ?_); unfold C_spec_Join)
  unfold strs
  (simp only [Nat.reduceSub, List.length_cons, List.length_nil, Nat.reduceAdd, ch_init1, ch_init2, ch_init3, ch_init4, ch_init5, ch_init6, ch_init7, ch_init8]; try simp only [ch_rep]); (simp only [go_sem, seval, reduceCtorEq, List.replicate])
  have e0 : joinB [] sep = ⟨#[]⟩ := joinB_nil sep
  refine wpN_lp (xs.length) [false, false, false, false, false, false, true, true, false, false, false, true, true, true, true, true, true, true, true, true, true, true, true, true, false] (fun k => [(5, .d (.str (joinB (xs.take k) sep))), (10, .d (.int k))]) (fun k => []) (fun _ => by (simp only [go_sem, seval, reduceCtorEq, dropF_ch, dropF_cons, dropF_nil, cut, cond_true, cond_false]); first | done | rfl) (fun _ => by (simp only [go_sem, seval, reduceCtorEq, cut]); first | done | rfl) (Nat.le_of_ble_eq_true rfl) (by first | (simp only [go_sem, seval, reduceCtorEq, dropF_ch, dropF_cons, dropF_nil, cut, cond_true, cond_false, Int.natCast_zero, Int.natCast_add, Int.natCast_one, e0]; done) | rfl | (simp only [go_sem, seval, reduceCtorEq, dropF_ch, dropF_cons, dropF_nil, cut, cond_true, cond_false, Int.natCast_zero, Int.natCast_add, Int.natCast_one, e0]; rfl)) (by first | (simp only [go_sem, seval, reduceCtorEq, dropF_ch, dropF_cons, dropF_nil, cut, cond_true, cond_false, Int.natCast_zero, Int.natCast_add, Int.natCast_one, e0]; done) | rfl | (simp only [go_sem, seval, reduceCtorEq, dropF_ch, dropF_cons, dropF_nil, cut, cond_true, cond_false, Int.natCast_zero, Int.natCast_add, Int.natCast_one, e0]; rfl)) fun k hk => ?_
  unfold L0_spec_Join
  by_cases hlt : k < xs.length
  · have d1 : (k : Int) < xs.length := by omega
    have g : xs[k]? = some xs[k] := List.getElem?_eq_getElem hlt
    have hs := joinB_step (xs := xs) sep hlt
    have hm := joinB_mono (xs := xs) sep (xs.length - (k + 1)) (k + 1) (by omega)
    rw [show k + 1 + (xs.length - (k + 1)) = xs.length by omega, List.take_length] at hm
    by_cases hk : k = 0
    · rw [if_pos hk] at hs
      have c : ¬ (k : Int) > 0 := by omega
      have e1 : (⟨#[]⟩ : ByteArray) ++ xs[k] = xs[k] := ba_ext (by rw [ba_app]; simp)
      rw [hs] at hm
      have e2 : (⟨#[]⟩ : ByteArray).size = 0 := rfl
      have e3 : joinB (xs.take k) sep = ⟨#[]⟩ := by rw [hk, List.take_zero, e0]
      simp (disch := omega) only [go_sem, seval, reduceCtorEq, d1, g, c, Option.map_some, e3, e1, e2]
      (repeat (refine And.intro (by omega) ?_))
      (refine Next.drop [false, false, false, false, false, false, true, true, false, false, false, true, true, true, true, true, true, true, true, true, true, true, true, true, false] (by omega) (Nat.le_of_ble_eq_true rfl) ?_ ?_ <;> first | (simp only [go_sem, seval, reduceCtorEq, dropF_ch, dropF_cons, dropF_nil, cut, cond_true, cond_false, Int.natCast_zero, Int.natCast_add, Int.natCast_one, hs]; done) | rfl | (simp only [go_sem, seval, reduceCtorEq, dropF_ch, dropF_cons, dropF_nil, cut, cond_true, cond_false, Int.natCast_zero, Int.natCast_add, Int.natCast_one, hs]; rfl) | skip)
    · rw [if_neg hk] at hs
      have c : (k : Int) > 0 := by omega
      rw [hs] at hm
      simp only [ByteArray.size_append] at hm
      simp (disch := omega) only [go_sem, seval, reduceCtorEq, d1, g, c, Option.map_some, ByteArray.size_append]
      (repeat (refine And.intro (by omega) ?_))
      (refine Next.drop [false, false, false, false, false, false, true, true, false, false, false, true, true, true, true, true, true, true, true, true, true, true, true, true, false] (by omega) (Nat.le_of_ble_eq_true rfl) ?_ ?_ <;> first | (simp only [go_sem, seval, reduceCtorEq, dropF_ch, dropF_cons, dropF_nil, cut, cond_true, cond_false, Int.natCast_zero, Int.natCast_add, Int.natCast_one, hs]; done) | rfl | (simp only [go_sem, seval, reduceCtorEq, dropF_ch, dropF_cons, dropF_nil, cut, cond_true, cond_false, Int.natCast_zero, Int.natCast_add, Int.natCast_one, hs]; rfl) | skip)
  · have d1 : ¬ (k : Int) < xs.length := by omega
    have e : joinB (xs.take k) sep = joinB xs sep := by rw [List.take_of_length_le (by omega)]
    simp (disch := omega) only [go_sem, seval, reduceCtorEq, d1, e]
    (refine FnEnd.mk (Nat.le_of_ble_eq_true rfl) rfl (of_decide_eq_true rfl) ?_ ?_ <;> try simp only [go_sem, seval, reduceCtorEq])

/-! ### Lists of ints as texts -/
def texts (xs : List Int) : List ByteArray := xs.map itoaB
theorem texts_len (xs : List Int) : (texts xs).length = xs.length := by simp [texts]
theorem texts_nil : texts [] = [] := nr rfl
theorem texts_step {xs : List Int} {k : Nat} (h : k < xs.length) : texts (xs.take (k + 1)) = texts (xs.take k) ++ [itoaB xs[k]] := by
  unfold texts
  rw [List.take_succ_eq_append_getElem h, List.map_append]; rfl
def Pos (xs : List Int) : Prop := ∀ x ∈ xs, 0 ≤ x ∧ x ≤ 9223372036854775807
theorem texts_size {xs : List Int} {sep : ByteArray} (hs : sep.size ≤ 1) (hp : Pos xs) : (joinB (texts xs) sep).size ≤ xs.length * 21 :=
  joinB_size (c := 20) hs xs.length (texts xs) (texts_len xs) fun x hx => by
    obtain ⟨y, hy, rfl⟩ := List.mem_map.1 hx
    exact itoaB_size (hp y hy)
theorem FormatElem_d {kk pp nn : Int} {xs : List Int} (he : elemOk ⟨kk, pp, nn⟩ xs = true) (hz : Sz 1048576 xs) (hp : Pos xs) (h6 : xs.length ≤ 6) : Does Tryd.prog 14 [ringA kk pp nn, .d (ints xs)] [] (.d (.str (joinB (texts xs) ⟨#[44]⟩))) [] := by
  have hsz := texts_size (sep := ⟨#[44]⟩) (by decide) hp
  (refine spec_of (by kernel_rfl) Tryd.func14 k_spec_FormatElem (fnOk (Nat.le_of_ble_eq_true rfl) ?_); unfold C_spec_FormatElem)
  (simp only [Nat.reduceSub, List.length_cons, List.length_nil, Nat.reduceAdd, ch_init1, ch_init2, ch_init3, ch_init4, ch_init5, ch_init6, ch_init7, ch_init8]; try simp only [ch_rep]); (simp only [go_sem, seval, reduceCtorEq, List.replicate])
  (refine ti_call (sElemOk_d (k := kk) (p := pp) (n := nn) (xs := xs) hz.up) ?_ ?_ ?_; (focus (simp only [go_sem, seval, reduceCtorEq]; done)); (first | rfl | (focus (simp only [go_sem]; done))))
  simp only [go_sem, seval, reduceCtorEq, he]
  have e0 := texts_nil
  have et := texts_len
  refine wpN_lp (xs.length) [false, false, false, false, false, false, false, true, false, false, false, false, true, false, false, false, true, true, true, true, true, true, true, true, true, false, false] (fun k => [(5, .own 1 0 k), (15, .d (.int k))]) (fun k => [(1, xv (texts (xs.take k)))]) (fun _ => by (simp only [go_sem, seval, reduceCtorEq, dropF_ch, dropF_cons, dropF_nil, cut, cond_true, cond_false]); first | done | rfl) (fun _ => by (simp only [go_sem, seval, reduceCtorEq, cut]); first | done | rfl) (Nat.le_of_ble_eq_true rfl) (by first | (simp only [go_sem, seval, reduceCtorEq, dropF_ch, dropF_cons, dropF_nil, cut, cond_true, cond_false, Int.natCast_zero, Int.natCast_add, Int.natCast_one, e0, xv_nil]; done) | rfl | (simp only [go_sem, seval, reduceCtorEq, dropF_ch, dropF_cons, dropF_nil, cut, cond_true, cond_false, Int.natCast_zero, Int.natCast_add, Int.natCast_one, e0, xv_nil]; rfl)) (by first | (simp only [go_sem, seval, reduceCtorEq, dropF_ch, dropF_cons, dropF_nil, cut, cond_true, cond_false, Int.natCast_zero, Int.natCast_add, Int.natCast_one, e0, xv_nil]; done) | rfl | (simp only [go_sem, seval, reduceCtorEq, dropF_ch, dropF_cons, dropF_nil, cut, cond_true, cond_false, Int.natCast_zero, Int.natCast_add, Int.natCast_one, e0, xv_nil]; rfl)) fun k hk => ?_
  unfold L0_spec_FormatElem
  by_cases hlt : k < xs.length
  · have d1 : (k : Int) < xs.length := by omega
    have g : xs[k]? = some xs[k] := List.getElem?_eq_getElem hlt
    have hq := hp xs[k] (List.getElem_mem _)
    have hs := texts_step hlt
    have hn : xs[k] = ((xs[k].toNat : Nat) : Int) := by omega
    simp (disch := omega) only [go_sem, seval, reduceCtorEq, d1, g, Option.map_some]
    rw [hn]
    (refine ti_call (sFormatInt_d (n := xs[k].toNat) (by omega)) ?_ ?_ ?_; (focus (simp only [go_sem, seval, reduceCtorEq]; done)); (first | rfl | (focus (simp only [go_sem]; done))))
    rw [← hn]
    simp (disch := omega) only [go_sem, seval, reduceCtorEq, et, List.length_take, Nat.min_eq_left (Nat.le_of_lt hlt), ← hs, Option.map_some]
    (repeat (refine And.intro (by omega) ?_))
    (refine Next.drop [false, false, false, false, false, false, false, true, false, false, false, false, true, false, false, false, true, true, true, true, true, true, true, true, true, false, false] (by omega) (Nat.le_of_ble_eq_true rfl) ?_ ?_ <;> first | (simp only [go_sem, seval, reduceCtorEq, dropF_ch, dropF_cons, dropF_nil, cut, cond_true, cond_false, Int.natCast_zero, Int.natCast_add, Int.natCast_one]; done) | rfl | (simp only [go_sem, seval, reduceCtorEq, dropF_ch, dropF_cons, dropF_nil, cut, cond_true, cond_false, Int.natCast_zero, Int.natCast_add, Int.natCast_one]; rfl) | skip)
  · have d1 : ¬ (k : Int) < xs.length := by omega
    have e : xs.take k = xs := List.take_of_length_le (by omega)
    have hk : k = xs.length := by omega
    subst hk
    simp (disch := omega) only [go_sem, seval, reduceCtorEq, d1, e]
    have et2 : (texts xs).take xs.length = texts xs := List.take_of_length_le (by rw [texts_len]; exact Nat.le_refl _)
    have es : strs (texts xs) = .sl xs.length (dxv (texts xs)) := by unfold strs; rw [texts_len]
    (refine ti_call (sJoin_d (xs := texts xs) (sep := ⟨#[44]⟩) (by rw [texts_len]; omega) (by omega)) ?_ ?_ ?_; (focus (simp only [go_sem, seval, reduceCtorEq, es, et, et2]; done)); (first | rfl | (focus (simp only [go_sem]; done))))
    (refine FnEnd.mk (Nat.le_of_ble_eq_true rfl) rfl (of_decide_eq_true rfl) ?_ ?_ <;> try simp only [go_sem, seval, reduceCtorEq])
theorem rawElemText_d {xs : List Int} (hz : Sz 1048576 xs) (hp : Pos xs) (h6 : xs.length ≤ 6) : Does Tryd.prog 21 [.d (ints xs)] [] (.d (.str (joinB (texts xs) ⟨#[44]⟩))) [] := by
  have hsz := texts_size (sep := ⟨#[44]⟩) (by decide) hp
  (refine spec_of (by kernel_rfl) Tryd.func21 k_impl_rawElemText (fnOk (Nat.le_of_ble_eq_true rfl) ?_); unfold C_impl_rawElemText)
  (simp only [Nat.reduceSub, List.length_cons, List.length_nil, Nat.reduceAdd, ch_init1, ch_init2, ch_init3, ch_init4, ch_init5, ch_init6, ch_init7, ch_init8]; try simp only [ch_rep]); (simp only [go_sem, seval, reduceCtorEq, List.replicate])
  (repeat (refine And.intro (by omega) ?_))
  have e0 := texts_nil
  have et := texts_len
  have e1 : ([] : List ByteArray) ++ List.replicate xs.length ⟨#[]⟩ = List.replicate xs.length ⟨#[]⟩ := by simp
  refine wpN_lp (xs.length) [false, false, false, false, true, true, false, false, false, false, false, false, true, true, true, true, true, true, true, true, true, true, false, false] (fun k => [(11, .d (.int k))]) (fun k => [(0, xv (texts (xs.take k) ++ List.replicate (xs.length - k) ⟨#[]⟩))]) (fun _ => by (simp only [go_sem, seval, reduceCtorEq, dropF_ch, dropF_cons, dropF_nil, cut, cond_true, cond_false]); first | done | rfl) (fun _ => by (simp only [go_sem, seval, reduceCtorEq, cut]); first | done | rfl) (Nat.le_of_ble_eq_true rfl) (by first | (simp only [go_sem, seval, reduceCtorEq, dropF_ch, dropF_cons, dropF_nil, cut, cond_true, cond_false, Int.natCast_zero, Int.natCast_add, Int.natCast_one, e0, e1, Nat.sub_zero]; done) | rfl | (simp only [go_sem, seval, reduceCtorEq, dropF_ch, dropF_cons, dropF_nil, cut, cond_true, cond_false, Int.natCast_zero, Int.natCast_add, Int.natCast_one, e0, e1, Nat.sub_zero]; rfl)) (by first | (simp only [go_sem, seval, reduceCtorEq, dropF_ch, dropF_cons, dropF_nil, cut, cond_true, cond_false, Int.natCast_zero, Int.natCast_add, Int.natCast_one, e0, e1, Nat.sub_zero]; done) | rfl | (simp only [go_sem, seval, reduceCtorEq, dropF_ch, dropF_cons, dropF_nil, cut, cond_true, cond_false, Int.natCast_zero, Int.natCast_add, Int.natCast_one, e0, e1, Nat.sub_zero]; rfl)) fun k hk => ?_
  unfold L0_impl_rawElemText
  by_cases hlt : k < xs.length
  · have d1 : (k : Int) < xs.length := by omega
    have g : xs[k]? = some xs[k] := List.getElem?_eq_getElem hlt
    have hq := hp xs[k] (List.getElem_mem _)
    have hs := texts_step hlt
    simp (disch := omega) only [go_sem, seval, reduceCtorEq, d1, g, Option.map_some]
    (refine ti_call (iFormatInt_d (n := xs[k]) ⟨by omega, hq.2⟩) ?_ ?_ ?_; (focus (simp only [go_sem, seval, reduceCtorEq]; done)); (first | rfl | (focus (simp only [go_sem]; done))))
    have hTl : (texts (xs.take k)).length = k := by rw [texts_len, List.length_take]; omega
    have hll : (texts (xs.take k) ++ List.replicate (xs.length - k) (⟨#[]⟩ : ByteArray)).length = xs.length := by rw [List.length_append, hTl, List.length_replicate]; omega
    have hpu : List.take k (texts (xs.take k) ++ List.replicate (xs.length - k) (⟨#[]⟩ : ByteArray)) ++ [itoaB xs[k]] ++ List.drop (k + 1) (texts (xs.take k) ++ List.replicate (xs.length - k) ⟨#[]⟩) = texts (xs.take (k + 1)) ++ List.replicate (xs.length - (k + 1)) ⟨#[]⟩ := by
      rw [List.take_append_of_le_length (by omega), List.take_of_length_le (by omega), List.drop_append, List.drop_eq_nil_of_le (by omega), List.nil_append, List.drop_replicate, hs, hTl, show xs.length - k - (k + 1 - k) = xs.length - (k + 1) by omega]
    simp (disch := omega) only [go_sem, seval, reduceCtorEq, hll, hpu]
    (repeat (refine And.intro (by omega) ?_))
    (refine Next.drop [false, false, false, false, true, true, false, false, false, false, false, false, true, true, true, true, true, true, true, true, true, true, false, false] (by omega) (Nat.le_of_ble_eq_true rfl) ?_ ?_ <;> first | (simp only [go_sem, seval, reduceCtorEq, dropF_ch, dropF_cons, dropF_nil, cut, cond_true, cond_false, Int.natCast_zero, Int.natCast_add, Int.natCast_one]; done) | rfl | (simp only [go_sem, seval, reduceCtorEq, dropF_ch, dropF_cons, dropF_nil, cut, cond_true, cond_false, Int.natCast_zero, Int.natCast_add, Int.natCast_one]; rfl) | skip)
  · have d1 : ¬ (k : Int) < xs.length := by omega
    have hk : k = xs.length := by omega
    have e : texts (xs.take k) ++ List.replicate (xs.length - k) ⟨#[]⟩ = texts xs := by rw [List.take_of_length_le (by omega), show xs.length - k = 0 by omega, List.replicate_zero, List.append_nil]
    simp (disch := omega) only [go_sem, seval, reduceCtorEq, d1, e]
    have et2 : (texts xs).take xs.length = texts xs := List.take_of_length_le (by rw [texts_len]; exact Nat.le_refl _)
    have es : strs (texts xs) = .sl xs.length (dxv (texts xs)) := by unfold strs; rw [texts_len]
    (refine ti_call (iJoin_d (xs := texts xs) (sep := ⟨#[44]⟩) (by rw [texts_len]; omega) (by omega)) ?_ ?_ ?_; (focus (simp only [go_sem, seval, reduceCtorEq, es, et, et2]; done)); (first | rfl | (focus (simp only [go_sem]; done))))
    (refine FnEnd.mk (Nat.le_of_ble_eq_true rfl) rfl (of_decide_eq_true rfl) ?_ ?_ <;> try simp only [go_sem, seval, reduceCtorEq])
end Go.Proofs.YtodlbhjnmdhjiaaDoor
