/-
 Contracts: the drawing of test data: the cursor over a code, numbers drawn. No condition.
-/
import Derived.Test.YtmkdphmjgfbjaaaMgSchedulesA
import Derived.Test.YtmkdphmjgfbjaaaStkA
import Derived.Test.YtmkdphmjgfbjaaaArrA
set_option linter.unusedSimpArgs false
set_option linter.unusedVariables false
namespace Go.Proofs.Ytmkdphmjgfbjaaa
open Go.RowKit Go.Lift Plain
set_option maxRecDepth 100000
def dby (b : List Int) : List D := b.map .byte
def bytes (b : List Int) : D := .sl b.length (dby b)
structure CodeOk (b : List Int) : Prop where
 len : b.length ≤ 1048576
 wf : ∀ x ∈ b, 0 ≤ x ∧ x ≤ 255
def curC (b : List Int) (i : Nat) (h : Int) : List AV := [.d (bytes b), .d (.int i), .d (.int h)]
def curR (b : List Int) (i : Nat) (h : Int) : Option Root := some ⟨0, false, curC b i h⟩
theorem dby_get (b : List Int) (i : Nat) : (dby b)[i]? = b[i]?.map .byte := by simp [dby]
attribute [go_sem] dby_get
def a255 (x : Int) : Int := IntKind.i64.wrap ((BitVec.ofInt 64 x &&& 255#64).toNat : Int)
theorem a255_bd (x : Int) : 0 ≤ a255 x ∧ a255 x ≤ 255 := by
 have h : (BitVec.ofInt 64 x &&& 255#64).toNat ≤ 255 := by
  rw [BitVec.toNat_and]
  exact Nat.and_le_right
 unfold a255
 rw [IntWalk.i64_in _ (by omega)]
 omega
def gH (h : Int) : Int := IntKind.i64.wrap (IntKind.i64.wrap (h * 6364136223846793005) + 1442695040888963407)
def gX (h : Int) : Int := a255 (IntKind.i64.wrap ((BitVec.ofInt 64 (h.fdiv (2 ^ (min 33 64))) ^^^ BitVec.ofInt 64 (h.fdiv (2 ^ (min 45 64)))).toNat : Int))
theorem l01Byte_d {b : List Int} (hb : CodeOk b) (i : Nat) (hi : i ≤ b.length) (h : Int) : ∃ (x : Int) (j : Nat) (h' : Int), (0 ≤ x ∧ x ≤ 255 ∧ j ≤ b.length) ∧ Does Try.prog 29 [.ptr 0 0] [curR b i h] (.d (.int x)) [curR b j h'] := by
 have hl := hb.len
 have g1 : IntKind.i64.wrap (IntKind.i64.wrap (h * 6364136223846793005) + 1442695040888963407) = gH h := rfl
 have g2 : IntKind.i64.wrap ((BitVec.ofInt 64 (IntKind.i64.wrap ((BitVec.ofInt 64 ((gH h).fdiv (2 ^ (min 33 64))) ^^^ BitVec.ofInt 64 ((gH h).fdiv (2 ^ (min 45 64)))).toNat : Int)) &&& 255#64).toNat : Int) = gX (gH h) := rfl
 have g3 := a255_bd (IntKind.i64.wrap ((BitVec.ofInt 64 ((gH h).fdiv (2 ^ (min 33 64))) ^^^ BitVec.ofInt 64 ((gH h).fdiv (2 ^ (min 45 64)))).toNat : Int))
 change 0 ≤ gX (gH h) ∧ gX (gH h) ≤ 255 at g3
 by_cases hlt : i < b.length
 ·have d1 : (i : Int) < b.length := by omega
  have g : b[i]? = some b[i] := List.getElem?_eq_getElem hlt
  have hw := hb.wf b[i] (List.getElem_mem _)
  have g4 : IntKind.i64.wrap ((BitVec.ofInt 64 (gX (gH h) + b[i]) &&& 255#64).toNat : Int) = a255 (gX (gH h) + b[i]) := rfl
  have g5 : (i : Int) + 1 = ((i + 1 : Nat) : Int) := by omega
  refine ⟨a255 (gX (gH h) + b[i]), i + 1, gH h, ⟨(a255_bd _).1, (a255_bd _).2, hlt⟩, ?_⟩
  (refine spec_of (by kernel_rfl) Try.func29 k_spec_l01Byte (fnOk (nb rfl) ?_); unfold C_spec_l01Byte)
  unfold curR curC bytes
  (simp only [Nat.reduceSub, List.length_cons, List.length_nil, Nat.reduceAdd, ch_init1, ch_init2, ch_init3, ch_init4, ch_init5, ch_init6, ch_init7, ch_init8]; try simp only [ch_rep]); (simp only [go_sem, seval, reduceCtorEq, List.replicate])
  simp (disch := omega) only [go_sem, seval, reduceCtorEq, g1, g2, d1, g, g4, g5, Option.map_some]
  (refine FnEnd.mk (nb rfl) rfl (of_decide_eq_true rfl) ?_ ?_ <;> try simp only [go_sem, seval, reduceCtorEq])
 ·have d1 : ¬ (i : Int) < b.length := by omega
  refine ⟨gX (gH h), i, gH h, ⟨g3.1, g3.2, hi⟩, ?_⟩
  (refine spec_of (by kernel_rfl) Try.func29 k_spec_l01Byte (fnOk (nb rfl) ?_); unfold C_spec_l01Byte)
  unfold curR curC bytes
  (simp only [Nat.reduceSub, List.length_cons, List.length_nil, Nat.reduceAdd, ch_init1, ch_init2, ch_init3, ch_init4, ch_init5, ch_init6, ch_init7, ch_init8]; try simp only [ch_rep]); (simp only [go_sem, seval, reduceCtorEq, List.replicate])
  simp (disch := omega) only [go_sem, seval, reduceCtorEq, g1, g2, d1]
  (refine FnEnd.mk (nb rfl) rfl (of_decide_eq_true rfl) ?_ ?_ <;> try simp only [go_sem, seval, reduceCtorEq])
def Draws (f : FuncId) (b : List Int) (i : Nat) (h : Int) (args : List AV) (P : Int → Prop) : Prop :=
 ∃ (x : Int) (j : Nat) (h' : Int), (P x ∧ j ≤ b.length) ∧ Does Try.prog f (.ptr 0 0 :: args) [curR b i h] (.d (.int x)) [curR b j h']
theorem l01Below_d {b : List Int} (hb : CodeOk b) (i : Nat) (hi : i ≤ b.length) (h : Int) {n : Int} (hn : 1 ≤ n ∧ n ≤ 1048576) : Draws 22 b i h [.d (.int n)] fun x => 0 ≤ x ∧ x < n := by
 obtain ⟨x, j, h', ⟨x0, x1, hj⟩, hd⟩ := l01Byte_d hb i hi h
 have e := Int.tmod_eq_emod_of_nonneg x0 (b := n)
 have m0 := Int.emod_nonneg x (b := n) (by omega)
 have m1 := Int.emod_lt_of_pos x (b := n) (by omega)
 refine ⟨x % n, j, h', ⟨⟨m0, m1⟩, hj⟩, ?_⟩
 have d0 : ¬ n ≤ 0 := by omega
 have d1 : n ≠ 0 := by omega
 (refine spec_of (by kernel_rfl) Try.func22 k_spec_l01Below (fnOk (nb rfl) ?_); unfold C_spec_l01Below)
 unfold curR curC
 (simp only [Nat.reduceSub, List.length_cons, List.length_nil, Nat.reduceAdd, ch_init1, ch_init2, ch_init3, ch_init4, ch_init5, ch_init6, ch_init7, ch_init8]; try simp only [ch_rep]); (simp only [go_sem, seval, reduceCtorEq, List.replicate])
 simp only [go_sem, seval, reduceCtorEq, d0]
 unfold curR curC at hd
 (refine ti_callcg [0] [] false (of_decide_eq_true rfl) ?_ _ ?_ (hd) ?_ ?_; (focus (simp only [go_sem, seval, reduceCtorEq]; done)); (focus (simp only [go_sem, seval, reduceCtorEq]; done)); (focus (first | rfl | (simp only [go_sem, seval, reduceCtorEq]; done))))
 simp only [go_sem, seval, reduceCtorEq, e, d1]
 (repeat (refine And.intro (by omega) ?_))
 (refine FnEnd.mk (nb rfl) rfl (of_decide_eq_true rfl) ?_ ?_ <;> try simp only [go_sem, seval, reduceCtorEq])
theorem l01PickO_d {b : List Int} (hb : CodeOk b) (i : Nat) (hi : i ≤ b.length) (h : Int) {xs : List Int} (hn : 1 ≤ xs.length ∧ xs.length ≤ 1048576) : ∃ (x : Int) (j : Nat) (h' : Int), (x ∈ xs ∧ j ≤ b.length) ∧ Does Try.prog 23 [.ptr 0 0, .own 1 0 xs.length] [curR b i h, some ⟨1, false, iv xs⟩] (.d (.int x)) [curR b j h', some ⟨1, false, iv xs⟩] := by
 obtain ⟨x, j, h', ⟨⟨x0, x1⟩, hj⟩, hd⟩ := l01Below_d hb i hi h (n := xs.length) (by omega)
 have hx : x = ((x.toNat : Nat) : Int) := by omega
 have hlt : x.toNat < xs.length := by omega
 have g : xs[x.toNat]? = some xs[x.toNat] := List.getElem?_eq_getElem hlt
 refine ⟨xs[x.toNat], j, h', ⟨List.getElem_mem _, hj⟩, ?_⟩
 (refine spec_of (by kernel_rfl) Try.func23 k_spec_l01Pick (fnOk (nb rfl) ?_); unfold C_spec_l01Pick)
 unfold curR curC
 (simp only [Nat.reduceSub, List.length_cons, List.length_nil, Nat.reduceAdd, ch_init1, ch_init2, ch_init3, ch_init4, ch_init5, ch_init6, ch_init7, ch_init8]; try simp only [ch_rep]); (simp only [go_sem, seval, reduceCtorEq, List.replicate])
 unfold curR curC at hd
 (refine ti_callcg [0] [] false (of_decide_eq_true rfl) ?_ _ ?_ (hd) ?_ ?_; (focus (simp only [go_sem, seval, reduceCtorEq]; done)); (focus (simp only [go_sem, seval, reduceCtorEq]; done)); (focus (first | rfl | (simp only [go_sem, seval, reduceCtorEq]; done))))
 simp (disch := omega) only [go_sem, seval, reduceCtorEq, g, Option.map_some]
 (repeat (refine And.intro (by omega) ?_))
 (refine FnEnd.mk (nb rfl) rfl (of_decide_eq_true rfl) ?_ ?_ <;> try simp only [go_sem, seval, reduceCtorEq])
def gStep (h x : Int) : Int := IntKind.i64.wrap ((BitVec.ofInt 64 (IntKind.i64.wrap (IntKind.i64.wrap (IntKind.i64.wrap (h * 131) + x) + 7)) &&& 1073741823#64).toNat : Int)
def gNew (b : List Int) : Nat → Int
 | 0 => 55127 + (b.length : Int)
 | k + 1 => gStep (gNew b k) (b.getD k 0)
theorem l01New_d {b : List Int} (hb : CodeOk b) : Does Try.prog 24 [.d (bytes b)] [] (.ptr 0 0) [curR b 0 (gNew b (min b.length 4000))] := by
 have hl := hb.len
 (refine spec_of (by kernel_rfl) Try.func24 k_spec_l01New (fnOk (nb rfl) ?_); unfold C_spec_l01New)
 unfold bytes
 simp (disch := omega) only [go_sem, seval, reduceCtorEq]
 have e0 : gNew b 0 = 55127 + (b.length : Int) := rfl
 refine wpN_lp (min b.length 4000) (mkB 32 268435200) (fun k => [(3, .d (.int (gNew b k))), (4, .d (.int k))]) (fun k => []) (h1 := by first | (simp only [go_sem, seval, reduceCtorEq, nz, na, n1, e0]; first | done | rfl) | rfl) (h2 := by first | (simp only [go_sem, seval, reduceCtorEq, nz, na, n1, e0]; first | done | rfl) | rfl) (hr := fun k hk => ?_)
 unfold L0_spec_l01New
 by_cases hlt : k < min b.length 4000
 ·have hk : k < b.length := by omega
  have d1 : (k : Int) < b.length := by omega
  have d2 : (k : Int) < 4000 := by omega
  have g : b[k]? = some b[k] := List.getElem?_eq_getElem hk
  have hs : gNew b (k + 1) = IntKind.i64.wrap ((BitVec.ofInt 64 (IntKind.i64.wrap (IntKind.i64.wrap (IntKind.i64.wrap (gNew b k * 131) + b[k]) + 7)) &&& 1073741823#64).toNat : Int) := by
   show gStep (gNew b k) (b.getD k 0) = _
   rw [getD_of hk]
   rfl
  have hw := hb.wf b[k] (List.getElem_mem _)
  have gw : IntKind.i64.wrap b[k] = b[k] := IntWalk.i64_in _ (by omega)
  simp (disch := omega) only [go_sem, seval, reduceCtorEq, d1, d2, g, gw, Option.map_some, ← hs]
  (repeat (refine And.intro (by omega) ?_))
  (refine Next.drop (mkB 32 268435200) (by omega) (h1 := ?_) (h2 := ?_) <;> first | (simp only [go_sem, seval, reduceCtorEq, nz, na, n1]; first | done | rfl) | rfl | skip)
 ·have hk : k = min b.length 4000 := by omega
  by_cases hk2 : k < b.length
  ·have d1 : (k : Int) < b.length := by omega
   have d2 : ¬ (k : Int) < 4000 := by omega
   simp (disch := omega) only [go_sem, seval, reduceCtorEq, d1, d2]
   rw [← hk]
   unfold curR curC bytes
   (refine FnEnd.mk (nb rfl) rfl (of_decide_eq_true rfl) ?_ ?_ <;> try simp only [go_sem, seval, reduceCtorEq])
  ·have d1 : ¬ (k : Int) < b.length := by omega
   simp (disch := omega) only [go_sem, seval, reduceCtorEq, d1]
   rw [← hk]
   unfold curR curC bytes
   (refine FnEnd.mk (nb rfl) rfl (of_decide_eq_true rfl) ?_ ?_ <;> try simp only [go_sem, seval, reduceCtorEq])
theorem l45At_d {b : List Int} (hb : CodeOk b) {n : Nat} (hn : n ≤ 1000) : ∃ (i : Nat) (h : Int), i ≤ b.length ∧ Does Try.prog 14 [.d (bytes b), .d (.int n)] [] (.ptr 0 0) [curR b i h] := by
 have hl := hb.len
 have hd := l01New_d hb
 refine ⟨min n b.length, IntKind.i64.wrap ((BitVec.ofInt 64 (IntKind.i64.wrap (IntKind.i64.wrap (IntKind.i64.wrap (gNew b (min b.length 4000) * 31) + n * 7919) + 1)) &&& 1073741823#64).toNat : Int), by omega, ?_⟩
 generalize gNew b (min b.length 4000) = h0 at hd
 (refine spec_of (by kernel_rfl) Try.func14 k_spec_l45At (fnOk (nb rfl) ?_); unfold C_spec_l45At)
 unfold curR curC bytes
 unfold curR curC bytes at hd
 (simp only [Nat.reduceSub, List.length_cons, List.length_nil, Nat.reduceAdd, ch_init1, ch_init2, ch_init3, ch_init4, ch_init5, ch_init6, ch_init7, ch_init8]; try simp only [ch_rep]); (simp only [go_sem, seval, reduceCtorEq, List.replicate])
 (refine ti_call (hd) ?_ ?_ ?_; (focus (simp only [go_sem, seval, reduceCtorEq]; done)); (first | rfl | (focus (simp only [go_sem]; done))))
 have e : min (n : Int) (b.length : Int) = ((min n b.length : Nat) : Int) := by omega
 simp (disch := omega) only [go_sem, seval, reduceCtorEq, e]
 (refine FnEnd.mk (nb rfl) rfl (of_decide_eq_true rfl) ?_ ?_ <;> try simp only [go_sem, seval, reduceCtorEq])
theorem MakeNum_d {b : List Int} (hb : CodeOk b) {n : Nat} (hn : n ≤ 1000) : ∃ x : Int, (0 ≤ x ∧ x ≤ 65535) ∧ Does Try.prog 17 [.d (bytes b), .d (.int n)] [] (.d (.int x)) [] := by
 obtain ⟨i, h, hi, hd⟩ := l45At_d hb hn
 obtain ⟨x, j, h', ⟨x0, x1, hj⟩, hx⟩ := l01Byte_d hb i hi h
 obtain ⟨y, j2, h2, ⟨y0, y1, hj2⟩, hy⟩ := l01Byte_d hb j hj h'
 refine ⟨256 * x + y, ⟨by omega, by omega⟩, ?_⟩
 (refine spec_of (by kernel_rfl) Try.func17 k_spec_MakeNum (fnOk (nb rfl) ?_); unfold C_spec_MakeNum)
 unfold curR curC at hd hx hy
 (simp only [Nat.reduceSub, List.length_cons, List.length_nil, Nat.reduceAdd, ch_init1, ch_init2, ch_init3, ch_init4, ch_init5, ch_init6, ch_init7, ch_init8]; try simp only [ch_rep]); (simp only [go_sem, seval, reduceCtorEq, List.replicate])
 (refine ti_call (hd) ?_ ?_ ?_; (focus (simp only [go_sem, seval, reduceCtorEq]; done)); (first | rfl | (focus (simp only [go_sem]; done))))
 simp only [go_sem, seval, reduceCtorEq]
 (refine ti_callcg [0] [] false (of_decide_eq_true rfl) ?_ _ ?_ (hx) ?_ ?_; (focus (simp only [go_sem, seval, reduceCtorEq]; done)); (focus (simp only [go_sem, seval, reduceCtorEq]; done)); (focus (first | rfl | (simp only [go_sem, seval, reduceCtorEq]; done))))
 simp (disch := omega) only [go_sem, seval, reduceCtorEq]
 (refine ti_callcg [0] [] false (of_decide_eq_true rfl) ?_ _ ?_ (hy) ?_ ?_; (focus (simp only [go_sem, seval, reduceCtorEq]; done)); (focus (simp only [go_sem, seval, reduceCtorEq]; done)); (focus (first | rfl | (simp only [go_sem, seval, reduceCtorEq]; done))))
 simp (disch := omega) only [go_sem, seval, reduceCtorEq]
 (refine FnEnd.mk (nb rfl) rfl (of_decide_eq_true rfl) ?_ ?_ <;> try simp only [go_sem, seval, reduceCtorEq])
theorem MakeSize_d {b : List Int} (hb : CodeOk b) {n : Nat} (hn : n ≤ 1000) {lo hi : Int} (h : 0 ≤ lo ∧ lo ≤ hi ∧ hi ≤ 1000000) : ∃ x : Int, (lo ≤ x ∧ x ≤ hi) ∧ Does Try.prog 7 [.d (bytes b), .d (.int n), .d (.int lo), .d (.int hi)] [] (.d (.int x)) [] := by
 obtain ⟨x, ⟨x0, x1⟩, hx⟩ := MakeNum_d hb hn
 have e := Int.tmod_eq_emod_of_nonneg x0 (b := hi - lo + 1)
 have m0 := Int.emod_nonneg x (b := hi - lo + 1) (by omega)
 have m1 := Int.emod_lt_of_pos x (b := hi - lo + 1) (by omega)
 refine ⟨lo + x % (hi - lo + 1), ⟨by omega, by omega⟩, ?_⟩
 have d1 : hi - lo + 1 ≠ 0 := by omega
 (refine spec_of (by kernel_rfl) Try.func7 k_spec_MakeSize (fnOk (nb rfl) ?_); unfold C_spec_MakeSize)
 unfold bytes
 unfold bytes at hx
 (simp only [Nat.reduceSub, List.length_cons, List.length_nil, Nat.reduceAdd, ch_init1, ch_init2, ch_init3, ch_init4, ch_init5, ch_init6, ch_init7, ch_init8]; try simp only [ch_rep]); (simp only [go_sem, seval, reduceCtorEq, List.replicate])
 (refine ti_call (hx) ?_ ?_ ?_; (focus (simp only [go_sem, seval, reduceCtorEq]; done)); (first | rfl | (focus (simp only [go_sem]; done))))
 simp (disch := omega) only [go_sem, seval, reduceCtorEq, e]
 (repeat (refine And.intro (by omega) ?_))
 (refine FnEnd.mk (nb rfl) rfl (of_decide_eq_true rfl) ?_ ?_ <;> try simp only [go_sem, seval, reduceCtorEq])
theorem l02Ring_d {b : List Int} (hb : CodeOk b) (i : Nat) (hi : i ≤ b.length) (h : Int) : ∃ (k p n : Int) (j : Nat) (h' : Int), (ringOk ⟨k, p, n⟩ = true ∧ j ≤ b.length) ∧ Does Try.prog 13 [.ptr 0 0] [curR b i h] (ringA k p n) [curR b j h'] := by
 obtain ⟨x, j, h1, ⟨⟨x0, x1⟩, hj⟩, hx⟩ := l01Below_d hb i hi h (n := 8) (by omega)
 unfold curR curC at hx
 have hc : x = 0 ∨ x = 1 ∨ x = 2 ∨ x = 3 ∨ x = 4 ∨ x = 5 ∨ x = 6 ∨ x = 7 := by omega
 rcases hc with rfl | rfl | rfl | rfl | rfl | rfl | rfl | rfl
 ·refine ⟨1, 0, 0, j, h1, ⟨by kernel_rfl, hj⟩, ?_⟩
  (refine spec_of (by kernel_rfl) Try.func13 k_spec_l02Ring (fnOk (nb rfl) ?_); unfold C_spec_l02Ring)
  unfold curR curC
  (simp only [Nat.reduceSub, List.length_cons, List.length_nil, Nat.reduceAdd, ch_init1, ch_init2, ch_init3, ch_init4, ch_init5, ch_init6, ch_init7, ch_init8]; try simp only [ch_rep]); (simp only [go_sem, seval, reduceCtorEq, List.replicate])
  (refine ti_callcg [0] [] false (of_decide_eq_true rfl) ?_ _ ?_ (hx) ?_ ?_; (focus (simp only [go_sem, seval, reduceCtorEq]; done)); (focus (simp only [go_sem, seval, reduceCtorEq]; done)); (focus (first | rfl | (simp only [go_sem, seval, reduceCtorEq]; done))))
  simp (disch := omega) only [go_sem, seval, reduceCtorEq]
  (refine FnEnd.mk (nb rfl) rfl (of_decide_eq_true rfl) ?_ ?_ <;> try simp only [go_sem, seval, reduceCtorEq])
 ·obtain ⟨y, j2, h2, ⟨hy1, hj2⟩, hy⟩ := l01PickO_d hb j hj h1 (xs := [2, 3, 7, 97, 1000003]) (by decide)
  unfold curR curC at hy
  simp only [iv, List.map_cons, List.map_nil, List.length_cons, List.length_nil, Nat.zero_add, Nat.reduceAdd] at hy
  refine ⟨2, y, 0, j2, h2, ⟨?_, hj2⟩, ?_⟩
  ·simp only [List.mem_cons, List.not_mem_nil, or_false] at hy1
   rcases hy1 with rfl | rfl | rfl | rfl | rfl <;> kernel_rfl
  ·(refine spec_of (by kernel_rfl) Try.func13 k_spec_l02Ring (fnOk (nb rfl) ?_); unfold C_spec_l02Ring)
   unfold curR curC
   (simp only [Nat.reduceSub, List.length_cons, List.length_nil, Nat.reduceAdd, ch_init1, ch_init2, ch_init3, ch_init4, ch_init5, ch_init6, ch_init7, ch_init8]; try simp only [ch_rep]); (simp only [go_sem, seval, reduceCtorEq, List.replicate])
   (refine ti_callcg [0] [] false (of_decide_eq_true rfl) ?_ _ ?_ (hx) ?_ ?_; (focus (simp only [go_sem, seval, reduceCtorEq]; done)); (focus (simp only [go_sem, seval, reduceCtorEq]; done)); (focus (first | rfl | (simp only [go_sem, seval, reduceCtorEq]; done))))
   simp (disch := omega) only [go_sem, seval, reduceCtorEq]
   (refine ti_callcg [0, 2] [] false (of_decide_eq_true rfl) ?_ _ ?_ (hy) ?_ ?_; (focus (simp only [go_sem, seval, reduceCtorEq]; done)); (focus (simp only [go_sem, seval, reduceCtorEq]; done)); (focus (first | rfl | (simp only [go_sem, seval, reduceCtorEq]; done))))
   simp (disch := omega) only [go_sem, seval, reduceCtorEq]
   (refine FnEnd.mk (nb rfl) rfl (of_decide_eq_true rfl) ?_ ?_ <;> try simp only [go_sem, seval, reduceCtorEq])
 ·obtain ⟨y, j2, h2, ⟨hy1, hj2⟩, hy⟩ := l01PickO_d hb j hj h1 (xs := [1, 2, 9, 40, 1000000]) (by decide)
  unfold curR curC at hy
  simp only [iv, List.map_cons, List.map_nil, List.length_cons, List.length_nil, Nat.zero_add, Nat.reduceAdd] at hy
  refine ⟨3, y, 0, j2, h2, ⟨?_, hj2⟩, ?_⟩
  ·simp only [List.mem_cons, List.not_mem_nil, or_false] at hy1
   rcases hy1 with rfl | rfl | rfl | rfl | rfl <;> kernel_rfl
  ·(refine spec_of (by kernel_rfl) Try.func13 k_spec_l02Ring (fnOk (nb rfl) ?_); unfold C_spec_l02Ring)
   unfold curR curC
   (simp only [Nat.reduceSub, List.length_cons, List.length_nil, Nat.reduceAdd, ch_init1, ch_init2, ch_init3, ch_init4, ch_init5, ch_init6, ch_init7, ch_init8]; try simp only [ch_rep]); (simp only [go_sem, seval, reduceCtorEq, List.replicate])
   (refine ti_callcg [0] [] false (of_decide_eq_true rfl) ?_ _ ?_ (hx) ?_ ?_; (focus (simp only [go_sem, seval, reduceCtorEq]; done)); (focus (simp only [go_sem, seval, reduceCtorEq]; done)); (focus (first | rfl | (simp only [go_sem, seval, reduceCtorEq]; done))))
   simp (disch := omega) only [go_sem, seval, reduceCtorEq]
   (refine ti_callcg [0, 2] [] false (of_decide_eq_true rfl) ?_ _ ?_ (hy) ?_ ?_; (focus (simp only [go_sem, seval, reduceCtorEq]; done)); (focus (simp only [go_sem, seval, reduceCtorEq]; done)); (focus (first | rfl | (simp only [go_sem, seval, reduceCtorEq]; done))))
   simp (disch := omega) only [go_sem, seval, reduceCtorEq]
   (refine FnEnd.mk (nb rfl) rfl (of_decide_eq_true rfl) ?_ ?_ <;> try simp only [go_sem, seval, reduceCtorEq])
 ·obtain ⟨y, j2, h2, ⟨hy1, hj2⟩, hy⟩ := l01PickO_d hb j hj h1 (xs := [1, 2, 9, 40, 1000000]) (by decide)
  unfold curR curC at hy
  simp only [iv, List.map_cons, List.map_nil, List.length_cons, List.length_nil, Nat.zero_add, Nat.reduceAdd] at hy
  refine ⟨4, y, 0, j2, h2, ⟨?_, hj2⟩, ?_⟩
  ·simp only [List.mem_cons, List.not_mem_nil, or_false] at hy1
   rcases hy1 with rfl | rfl | rfl | rfl | rfl <;> kernel_rfl
  ·(refine spec_of (by kernel_rfl) Try.func13 k_spec_l02Ring (fnOk (nb rfl) ?_); unfold C_spec_l02Ring)
   unfold curR curC
   (simp only [Nat.reduceSub, List.length_cons, List.length_nil, Nat.reduceAdd, ch_init1, ch_init2, ch_init3, ch_init4, ch_init5, ch_init6, ch_init7, ch_init8]; try simp only [ch_rep]); (simp only [go_sem, seval, reduceCtorEq, List.replicate])
   (refine ti_callcg [0] [] false (of_decide_eq_true rfl) ?_ _ ?_ (hx) ?_ ?_; (focus (simp only [go_sem, seval, reduceCtorEq]; done)); (focus (simp only [go_sem, seval, reduceCtorEq]; done)); (focus (first | rfl | (simp only [go_sem, seval, reduceCtorEq]; done))))
   simp (disch := omega) only [go_sem, seval, reduceCtorEq]
   (refine ti_callcg [0, 2] [] false (of_decide_eq_true rfl) ?_ _ ?_ (hy) ?_ ?_; (focus (simp only [go_sem, seval, reduceCtorEq]; done)); (focus (simp only [go_sem, seval, reduceCtorEq]; done)); (focus (first | rfl | (simp only [go_sem, seval, reduceCtorEq]; done))))
   simp (disch := omega) only [go_sem, seval, reduceCtorEq]
   (refine FnEnd.mk (nb rfl) rfl (of_decide_eq_true rfl) ?_ ?_ <;> try simp only [go_sem, seval, reduceCtorEq])
 ·obtain ⟨y, j2, h2, ⟨hy1, hj2⟩, hy⟩ := l01PickO_d hb j hj h1 (xs := [1, 2, 9, 40, 1000000]) (by decide)
  unfold curR curC at hy
  simp only [iv, List.map_cons, List.map_nil, List.length_cons, List.length_nil, Nat.zero_add, Nat.reduceAdd] at hy
  refine ⟨5, y, 0, j2, h2, ⟨?_, hj2⟩, ?_⟩
  ·simp only [List.mem_cons, List.not_mem_nil, or_false] at hy1
   rcases hy1 with rfl | rfl | rfl | rfl | rfl <;> kernel_rfl
  ·(refine spec_of (by kernel_rfl) Try.func13 k_spec_l02Ring (fnOk (nb rfl) ?_); unfold C_spec_l02Ring)
   unfold curR curC
   (simp only [Nat.reduceSub, List.length_cons, List.length_nil, Nat.reduceAdd, ch_init1, ch_init2, ch_init3, ch_init4, ch_init5, ch_init6, ch_init7, ch_init8]; try simp only [ch_rep]); (simp only [go_sem, seval, reduceCtorEq, List.replicate])
   (refine ti_callcg [0] [] false (of_decide_eq_true rfl) ?_ _ ?_ (hx) ?_ ?_; (focus (simp only [go_sem, seval, reduceCtorEq]; done)); (focus (simp only [go_sem, seval, reduceCtorEq]; done)); (focus (first | rfl | (simp only [go_sem, seval, reduceCtorEq]; done))))
   simp (disch := omega) only [go_sem, seval, reduceCtorEq]
   (refine ti_callcg [0, 2] [] false (of_decide_eq_true rfl) ?_ _ ?_ (hy) ?_ ?_; (focus (simp only [go_sem, seval, reduceCtorEq]; done)); (focus (simp only [go_sem, seval, reduceCtorEq]; done)); (focus (first | rfl | (simp only [go_sem, seval, reduceCtorEq]; done))))
   simp (disch := omega) only [go_sem, seval, reduceCtorEq]
   (refine FnEnd.mk (nb rfl) rfl (of_decide_eq_true rfl) ?_ ?_ <;> try simp only [go_sem, seval, reduceCtorEq])
 ·obtain ⟨y, j2, h2, ⟨hy1, hj2⟩, hy⟩ := l01PickO_d hb j hj h1 (xs := [1, 3, 5, 20]) (by decide)
  unfold curR curC at hy
  simp only [iv, List.map_cons, List.map_nil, List.length_cons, List.length_nil, Nat.zero_add, Nat.reduceAdd] at hy
  refine ⟨6, 0, y, j2, h2, ⟨?_, hj2⟩, ?_⟩
  ·simp only [List.mem_cons, List.not_mem_nil, or_false] at hy1
   rcases hy1 with rfl | rfl | rfl | rfl <;> kernel_rfl
  ·(refine spec_of (by kernel_rfl) Try.func13 k_spec_l02Ring (fnOk (nb rfl) ?_); unfold C_spec_l02Ring)
   unfold curR curC
   (simp only [Nat.reduceSub, List.length_cons, List.length_nil, Nat.reduceAdd, ch_init1, ch_init2, ch_init3, ch_init4, ch_init5, ch_init6, ch_init7, ch_init8]; try simp only [ch_rep]); (simp only [go_sem, seval, reduceCtorEq, List.replicate])
   (refine ti_callcg [0] [] false (of_decide_eq_true rfl) ?_ _ ?_ (hx) ?_ ?_; (focus (simp only [go_sem, seval, reduceCtorEq]; done)); (focus (simp only [go_sem, seval, reduceCtorEq]; done)); (focus (first | rfl | (simp only [go_sem, seval, reduceCtorEq]; done))))
   simp (disch := omega) only [go_sem, seval, reduceCtorEq]
   (refine ti_callcg [0, 2] [] false (of_decide_eq_true rfl) ?_ _ ?_ (hy) ?_ ?_; (focus (simp only [go_sem, seval, reduceCtorEq]; done)); (focus (simp only [go_sem, seval, reduceCtorEq]; done)); (focus (first | rfl | (simp only [go_sem, seval, reduceCtorEq]; done))))
   simp (disch := omega) only [go_sem, seval, reduceCtorEq]
   (refine FnEnd.mk (nb rfl) rfl (of_decide_eq_true rfl) ?_ ?_ <;> try simp only [go_sem, seval, reduceCtorEq])
 ·obtain ⟨y, j2, h2, ⟨hy1, hj2⟩, hy⟩ := l01PickO_d hb j hj h1 (xs := [2, 5, 101]) (by decide)
  obtain ⟨z, j3, h3, ⟨⟨z0, z1⟩, hj3⟩, hz⟩ := l01Below_d hb j2 hj2 h2 (n := 4) (by omega)
  unfold curR curC at hy hz
  simp only [iv, List.map_cons, List.map_nil, List.length_cons, List.length_nil, Nat.zero_add, Nat.reduceAdd] at hy
  refine ⟨7, y, 1 + z, j3, h3, ⟨?_, hj3⟩, ?_⟩
  ·have key : ∀ y ∈ [2, 5, 101], ∀ z ∈ [0, 1, 2, 3], ringOk ⟨7, y, 1 + z⟩ = true := by decide +kernel
   exact key y hy1 z (by simp only [List.mem_cons, List.not_mem_nil, or_false]; omega)
  ·(refine spec_of (by kernel_rfl) Try.func13 k_spec_l02Ring (fnOk (nb rfl) ?_); unfold C_spec_l02Ring)
   unfold curR curC
   (simp only [Nat.reduceSub, List.length_cons, List.length_nil, Nat.reduceAdd, ch_init1, ch_init2, ch_init3, ch_init4, ch_init5, ch_init6, ch_init7, ch_init8]; try simp only [ch_rep]); (simp only [go_sem, seval, reduceCtorEq, List.replicate])
   (refine ti_callcg [0] [] false (of_decide_eq_true rfl) ?_ _ ?_ (hx) ?_ ?_; (focus (simp only [go_sem, seval, reduceCtorEq]; done)); (focus (simp only [go_sem, seval, reduceCtorEq]; done)); (focus (first | rfl | (simp only [go_sem, seval, reduceCtorEq]; done))))
   simp (disch := omega) only [go_sem, seval, reduceCtorEq]
   (refine ti_callcg [0, 2] [] false (of_decide_eq_true rfl) ?_ _ ?_ (hy) ?_ ?_; (focus (simp only [go_sem, seval, reduceCtorEq]; done)); (focus (simp only [go_sem, seval, reduceCtorEq]; done)); (focus (first | rfl | (simp only [go_sem, seval, reduceCtorEq]; done))))
   simp (disch := omega) only [go_sem, seval, reduceCtorEq]
   (refine ti_callcg [0] [] false (of_decide_eq_true rfl) ?_ _ ?_ (hz) ?_ ?_; (focus (simp only [go_sem, seval, reduceCtorEq]; done)); (focus (simp only [go_sem, seval, reduceCtorEq]; done)); (focus (first | rfl | (simp only [go_sem, seval, reduceCtorEq]; done))))
   simp (disch := omega) only [go_sem, seval, reduceCtorEq]
   (refine FnEnd.mk (nb rfl) rfl (of_decide_eq_true rfl) ?_ ?_ <;> try simp only [go_sem, seval, reduceCtorEq])
 ·obtain ⟨y, j2, h2, ⟨hy1, hj2⟩, hy⟩ := l01PickO_d hb j hj h1 (xs := [3, 17, 97, 1000003]) (by decide)
  unfold curR curC at hy
  simp only [iv, List.map_cons, List.map_nil, List.length_cons, List.length_nil, Nat.zero_add, Nat.reduceAdd] at hy
  refine ⟨8, y, 0, j2, h2, ⟨?_, hj2⟩, ?_⟩
  ·simp only [List.mem_cons, List.not_mem_nil, or_false] at hy1
   rcases hy1 with rfl | rfl | rfl | rfl <;> kernel_rfl
  ·(refine spec_of (by kernel_rfl) Try.func13 k_spec_l02Ring (fnOk (nb rfl) ?_); unfold C_spec_l02Ring)
   unfold curR curC
   (simp only [Nat.reduceSub, List.length_cons, List.length_nil, Nat.reduceAdd, ch_init1, ch_init2, ch_init3, ch_init4, ch_init5, ch_init6, ch_init7, ch_init8]; try simp only [ch_rep]); (simp only [go_sem, seval, reduceCtorEq, List.replicate])
   (refine ti_callcg [0] [] false (of_decide_eq_true rfl) ?_ _ ?_ (hx) ?_ ?_; (focus (simp only [go_sem, seval, reduceCtorEq]; done)); (focus (simp only [go_sem, seval, reduceCtorEq]; done)); (focus (first | rfl | (simp only [go_sem, seval, reduceCtorEq]; done))))
   simp (disch := omega) only [go_sem, seval, reduceCtorEq]
   (refine ti_callcg [0, 2] [] false (of_decide_eq_true rfl) ?_ _ ?_ (hy) ?_ ?_; (focus (simp only [go_sem, seval, reduceCtorEq]; done)); (focus (simp only [go_sem, seval, reduceCtorEq]; done)); (focus (first | rfl | (simp only [go_sem, seval, reduceCtorEq]; done))))
   simp (disch := omega) only [go_sem, seval, reduceCtorEq]
   (refine FnEnd.mk (nb rfl) rfl (of_decide_eq_true rfl) ?_ ?_ <;> try simp only [go_sem, seval, reduceCtorEq])
theorem MakeRing_d {b : List Int} (hb : CodeOk b) {m : Nat} (hm : m ≤ 1000) : ∃ k p n : Int, ringOk ⟨k, p, n⟩ = true ∧ Does Try.prog 4 [.d (bytes b), .d (.int m)] [] (ringA k p n) [] := by
 obtain ⟨i, h, hi, hd⟩ := l45At_d hb hm
 obtain ⟨k, p, n, j, h', ⟨hr, hj⟩, hx⟩ := l02Ring_d hb i hi h
 refine ⟨k, p, n, hr, ?_⟩
 (refine spec_of (by kernel_rfl) Try.func4 k_spec_MakeRing (fnOk (nb rfl) ?_); unfold C_spec_MakeRing)
 unfold curR curC at hd hx
 (simp only [Nat.reduceSub, List.length_cons, List.length_nil, Nat.reduceAdd, ch_init1, ch_init2, ch_init3, ch_init4, ch_init5, ch_init6, ch_init7, ch_init8]; try simp only [ch_rep]); (simp only [go_sem, seval, reduceCtorEq, List.replicate])
 (refine ti_call (hd) ?_ ?_ ?_; (focus (simp only [go_sem, seval, reduceCtorEq]; done)); (first | rfl | (focus (simp only [go_sem]; done))))
 simp only [go_sem, seval, reduceCtorEq]
 (refine ti_callcg [1] [] false (of_decide_eq_true rfl) ?_ _ ?_ (hx) ?_ ?_; (focus (simp only [go_sem, seval, reduceCtorEq]; done)); (focus (simp only [go_sem, seval, reduceCtorEq]; done)); (focus (first | rfl | (simp only [go_sem, seval, reduceCtorEq]; done))))
 simp (disch := omega) only [go_sem, seval, reduceCtorEq]
 (refine FnEnd.mk (nb rfl) rfl (of_decide_eq_true rfl) ?_ ?_ <;> try simp only [go_sem, seval, reduceCtorEq])
end Go.Proofs.Ytmkdphmjgfbjaaa
