/-
  Plain lists: the contraction of two tensors. No condition.
-/
import Derived.Test.YtcgnehacihjnkaaCoD
import Derived.Test.YtcgnehacihjnkaaPlC
import Derived.Test.YtcgnehacihjnkaaPlB0
namespace Go.Proofs.Ytcgnehacihjnkaa
open Plain
set_option linter.unusedSimpArgs false
set_option linter.unusedVariables false

/-! ### Products and sums fit the ring -/
theorem natOf {a : Int} {m : Nat} (h : 0 ≤ a ∧ a < (2 : Int) ^ m) (hm : m ≤ 20) : ∃ n : Nat, a = n ∧ n < 2 ^ m ∧ n < 1048577 := by
  obtain ⟨n, rfl⟩ : ∃ n : Nat, a = n := ⟨a.toNat, by omega⟩
  have c : ((2 ^ m : Nat) : Int) = (2 : Int) ^ m := by simp
  have b : 2 ^ m ≤ 2 ^ 20 := Nat.pow_le_pow_right (by omega) hm
  exact ⟨n, rfl, by omega, by omega⟩
theorem wrap_nat {n : Nat} (h : n < 1048577) : IntKind.i64.wrap (n : Int) = n := by rw [IntKind.wrap_i64]; omega
theorem andI_nat {a b : Nat} (ha : a < 1048577) (hb : b < 1048577) : andI a b = ((a &&& b : Nat) : Int) := by
  have e : (BitVec.ofInt 64 (a : Int) &&& BitVec.ofInt 64 (b : Int)).toNat = a &&& b := by
    rw [BitVec.toNat_and, BitVec.ofInt_natCast, BitVec.ofInt_natCast, BitVec.toNat_ofNat, BitVec.toNat_ofNat, Nat.mod_eq_of_lt (by omega), Nat.mod_eq_of_lt (by omega)]
  have h : a &&& b ≤ a := Nat.and_le_left
  rw [andI, e, wrap_nat (by omega)]
theorem orI_nat {a b : Nat} (ha : a < 2 ^ 20) (hb : b < 2 ^ 20) : orI a b = ((a ||| b : Nat) : Int) := by
  have e : (BitVec.ofInt 64 (a : Int) ||| BitVec.ofInt 64 (b : Int)).toNat = a ||| b := by
    rw [BitVec.toNat_or, BitVec.ofInt_natCast, BitVec.ofInt_natCast, BitVec.toNat_ofNat, BitVec.toNat_ofNat, Nat.mod_eq_of_lt (by omega), Nat.mod_eq_of_lt (by omega)]
  have h : a ||| b < 2 ^ 20 := Nat.or_lt_two_pow ha hb
  rw [orI, e, wrap_nat (by omega)]
theorem top6 {r : Rg} (h : r.k = 6) : top r = 2 ^ r.n.toNat - 1 := by unfold top; rw [if_neg (by omega), if_neg (by omega), if_pos h]
theorem and_top {r : Rg} {a b : Int} (hr : ringOk r = true) (hk : r.k = 6) (ha : 0 ≤ a ∧ a ≤ top r) (hb : 0 ≤ b ∧ b ≤ top r) : 0 ≤ andI a b ∧ andI a b ≤ top r := by
  have hn : 1 ≤ r.n ∧ r.n ≤ 20 := by rcases ringOk_cases hr with h | h | h | h | h | h | h | h <;> omega
  rw [top6 hk] at *
  obtain ⟨m, rfl, h1, h2⟩ := natOf (a := a) (m := r.n.toNat) (by omega) (by omega)
  obtain ⟨n, rfl, h3, h4⟩ := natOf (a := b) (m := r.n.toNat) (by omega) (by omega)
  have h : m &&& n ≤ m := Nat.and_le_left
  rw [andI_nat h2 h4]
  omega
theorem or_top {r : Rg} {a b : Int} (hr : ringOk r = true) (hk : r.k = 6) (ha : 0 ≤ a ∧ a ≤ top r) (hb : 0 ≤ b ∧ b ≤ top r) : 0 ≤ orI a b ∧ orI a b ≤ top r := by
  have hn : 1 ≤ r.n ∧ r.n ≤ 20 := by rcases ringOk_cases hr with h | h | h | h | h | h | h | h <;> omega
  rw [top6 hk] at *
  obtain ⟨m, rfl, h1, h2⟩ := natOf (a := a) (m := r.n.toNat) (by omega) (by omega)
  obtain ⟨n, rfl, h3, h4⟩ := natOf (a := b) (m := r.n.toNat) (by omega) (by omega)
  have b : 2 ^ r.n.toNat ≤ 2 ^ 20 := Nat.pow_le_pow_right (by omega) (by omega)
  have h : m ||| n < 2 ^ r.n.toNat := Nat.or_lt_two_pow h1 h3
  have c : ((2 ^ r.n.toNat : Nat) : Int) = (2 : Int) ^ r.n.toNat := by simp
  rw [orI_nat (by omega) (by omega)]
  omega
theorem topP {r : Rg} (h : r.k = 2 ∨ r.k = 7 ∨ r.k = 8) : top r = r.p - 1 := by unfold top; rw [if_neg (by omega), if_neg (by omega), if_neg (by omega)]
theorem topQ {r : Rg} (h : r.k = 3 ∨ r.k = 4 ∨ r.k = 5) : top r = r.p := by unfold top; rw [if_neg (by omega), if_pos h]
theorem fits_one {r : Rg} {x : Int} (h : 0 ≤ x ∧ x ≤ top r) : fits r [x] := fits_of fun y hy => by simp only [List.mem_singleton] at hy; subst hy; exact h
theorem mulE_fits {r : Rg} {x y : List Int} {wd : Nat} (hr : ringOk r = true) (hw : width r = wd) (hx : fits r x) (hy : fits r y) (lx : x.length = wd) (ly : y.length = wd) : fits r (mulE r x y) := by
  have hwb := width_bd hr
  have htb := top_bd hr
  have x0 := hx 0 (by omega)
  have y0 := hy 0 (by omega)
  unfold mulE
  by_cases h7 : r.k = 7 ∨ r.k = 8
  · rw [if_neg (by omega), if_neg (by omega), if_neg (by omega), if_neg (by omega), if_neg (by omega)]
    obtain ⟨hlx, hp⟩ := elem_low hr hx (by omega)
    obtain ⟨hly, _⟩ := elem_low hr hy (by omega)
    obtain ⟨_, h1, h2⟩ := mulTo_eq hp (lowP_rep (by omega) x.length) hlx hly x.length
    refine fits_of fun z hz => ?_
    have := h1.mem z hz
    have := topP (r := r) (by omega)
    omega
  · have hmm : 0 ≤ x.getD 0 0 * y.getD 0 0 := Int.mul_nonneg x0.1 y0.1
    split
    · exact fits_one (by omega)
    · split
      · obtain ⟨_, hp⟩ := elem_low hr hx (by omega)
        have := tmb hmm (show 0 < r.p by omega)
        have := topP (r := r) (by omega)
        exact fits_one (by omega)
      · have hp : r.k = 3 ∨ r.k = 4 → 1 ≤ r.p ∧ r.p ≤ 1000000 := fun h => by rcases ringOk_cases hr with h | h | h | h | h | h | h | h <;> omega
        split
        · have := hp (.inl (by assumption))
          have := topQ (r := r) (by omega)
          exact fits_one (by omega)
        · split
          · have := hp (.inr (by assumption))
            have := topQ (r := r) (by omega)
            exact fits_one (by omega)
          · have h6 : r.k = 6 := by rcases ringOk_cases hr with h | h | h | h | h | h | h | h <;> omega
            rw [if_pos h6]
            exact fits_one (and_top hr h6 x0 y0)
theorem add1_top {r : Rg} {a b : Int} (hr : ringOk r = true) (ha : 0 ≤ a ∧ a ≤ top r) (hb : 0 ≤ b ∧ b ≤ top r) : 0 ≤ add1 r a b ∧ add1 r a b ≤ top r := by
  unfold add1
  split
  · omega
  · split
    · have := topQ (r := r) (by omega)
      omega
    · split
      · omega
      · split
        · exact or_top hr (by assumption) ha hb
        · have hk : r.k = 2 ∨ r.k = 7 ∨ r.k = 8 := by rcases ringOk_cases hr with h | h | h | h | h | h | h | h <;> omega
          have hp := (elem_low (r := r) (x := []) hr (fun k hk => by simp at hk) hk).2
          have := tmb (a := a + b) (p := r.p) (by omega) (by omega)
          have := topP hk
          omega
theorem addE_fits {r : Rg} {x y : List Int} (hr : ringOk r = true) (hx : fits r x) (hy : fits r y) : fits r (addE r x y) := fits_of fun z hz => by
  obtain ⟨k, hk, rfl⟩ := List.mem_iff_getElem.1 hz
  have hk' : k < x.length ∧ k < y.length := by simp [addE] at hk; omega
  have h := addE_get (r := r) hk'.1 hk'.2
  rw [List.getElem?_eq_getElem hk] at h
  rw [Option.some.inj h]
  have h1 := hx k hk'.1
  have h2 := hy k hk'.2
  rw [getD_of hk'.1] at h1
  rw [getD_of hk'.2] at h2
  exact add1_top hr h1 h2
/-- The zero of a ring, as a list of coefficients. -/
def zeroE (kk pp : Int) (wd : Nat) : List Int := if kk = 4 then (List.replicate wd 0).set 0 pp else List.replicate wd 0
theorem zeroE_len (kk pp : Int) (wd : Nat) : (zeroE kk pp wd).length = wd := by unfold zeroE; split <;> simp
theorem zeroE_fits {r : Rg} {wd : Nat} (hr : ringOk r = true) : fits r (zeroE r.k r.p wd) := fits_of fun x hx => by
  have ht := top_bd hr
  unfold zeroE at hx
  split at hx
  · rename_i h4
    have := topQ (r := r) (by omega)
    rcases List.mem_or_eq_of_mem_set hx with h | h
    · have := List.eq_of_mem_replicate h; omega
    · omega
  · have := List.eq_of_mem_replicate hx; omega
def repE (z : List Int) : Nat → List Int
  | 0 => []
  | k + 1 => repE z k ++ z
theorem repE_len (z : List Int) : ∀ k, (repE z k).length = k * z.length
  | 0 => by simp [repE]
  | k + 1 => by rw [repE, List.length_append, repE_len z k, Nat.succ_mul]
theorem repE_mem {z : List Int} : ∀ k, ∀ x ∈ repE z k, x ∈ z
  | 0, x, h => by simp [repE] at h
  | k + 1, x, h => by
    rw [repE, List.mem_append] at h
    exact h.elim (repE_mem k x) id
theorem putE_mem {xs ys : List Int} {off : Nat} : ∀ x ∈ putE xs off ys, x ∈ xs ∨ x ∈ ys := fun x hx => by
  simp only [putE, List.mem_append] at hx
  rcases hx with (h | h) | h
  · exact .inl (List.mem_of_mem_take h)
  · exact .inr h
  · exact .inl (List.mem_of_mem_drop h)
theorem putE_fits {r : Rg} {xs ys : List Int} {off : Nat} (h : fits r xs) (h' : fits r ys) : fits r (putE xs off ys) := fits_of fun x hx => (putE_mem x hx).elim (fits_mem h x) (fits_mem h' x)

/-! ### A tensor's axes among a list of labels -/
structure InOk (ls ds L D : List Int) (n : Nat) : Prop where
  ax : axOk ls ds
  pn : prodI ds = n
  n1 : 1 ≤ n ∧ n ≤ 4096
  nodup : L.Nodup
  sup : ∀ x ∈ ls, x ∈ L
  dl : D.length = L.length
  dbd : ∀ d ∈ D, 1 ≤ d ∧ d ≤ 8
  same : ∀ q (h : q < L.length), L[q] ∈ ls → D.getD q 0 = dimAt ⟨ls, ds, []⟩ L[q]
def inOff (ls ds L D : List Int) (i : Nat) : Nat := (dotI (L.map (strideL ls ds)) (digits D i)).toNat
namespace InOk
variable {ls ds L D : List Int} {n : Nat}
theorem idx (h : InOk ls ds L D n) (i : Nat) : idxOk ds (ls.map (atL L (digits D i))) := by
  have ha : axOk (⟨ls, ds, []⟩ : Ten).labels (⟨ls, ds, []⟩ : Ten).dims := h.ax
  refine ⟨by simp [h.ax.len], fun k hk => ?_⟩
  have hk' : k < ls.length := by have := h.ax.len; omega
  have hm := h.sup ls[k] (List.getElem_mem hk')
  obtain ⟨q, h1, h2, h3, h4⟩ := atL_mem (xs := digits D i) hm (by simp [digits_len, h.dl])
  have h5 := digits_bd D i (fun d hd => (h.dbd d hd).1) q (by rw [h.dl]; exact h1)
  have h7 : L[q] = ls[k] := by rw [List.getElem?_eq_getElem h1] at h3; simpa using h3
  have h6 : D.getD q 0 = ds.getD k 0 := by
    rw [h.same q h1 (by rw [h7]; exact List.getElem_mem hk'), getD_of hk, h7]
    exact dimAt_at (t := ⟨ls, ds, []⟩) ha hk' hk
  unfold idxAt
  have h8 : (ls.map (atL L (digits D i))).getD k 0 = atL L (digits D i) ls[k] := by rw [getD_of (by simpa using hk')]; simp
  rw [h8, h4, ← h6]
  exact h5
theorem off (h : InOk ls ds L D n) (i : Nat) : dotI (L.map (strideL ls ds)) (digits D i) = inOff ls ds L D i ∧ inOff ls ds L D i < n := by
  have h1 := off_labels h.ax.len (axOk_nodup h.ax) h.nodup h.sup (xs := digits D i) (by simp [digits_len, h.dl])
  have h2 := offs_bd _ _ _ h.ax (h.idx i)
  have h3 := h.pn
  unfold inOff
  rw [h1]
  omega
theorem cut (h : InOk ls ds L D n) {data : List Int} {wd : Nat} (hl : data.length = n * wd) (i : Nat) : inOff ls ds L D i * wd + wd ≤ data.length := by
  rw [hl]; exact mul_step (h.off i).2
theorem dotb (h : InOk ls ds L D n) (i k : Nat) : 0 ≤ (L.map (strideL ls ds)).getD k 0 * (digits D i).getD k 0 ∧ (L.map (strideL ls ds)).getD k 0 * (digits D i).getD k 0 ≤ 16777216 := by
  by_cases hk : k < L.length
  · have hkD : k < D.length := by rw [h.dl]; exact hk
    have h1 := digits_bd D i (fun d hd => (h.dbd d hd).1) k hkD
    have h2 := h.dbd (D.getD k 0) (by rw [getD_of hkD]; exact List.getElem_mem _)
    have h3 := strideL_bd ls ds L[k] (fun d hd => (h.ax.dim d hd).1)
    have h4 := h.pn
    have h5 := h.n1
    rw [getD_of (show k < (L.map (strideL ls ds)).length by simpa using hk), List.getElem_map]
    generalize (digits D i).getD k 0 = x at *
    generalize strideL ls ds L[k] = s at *
    refine ⟨Int.mul_nonneg h3.1 h1.1, ?_⟩
    have : s * x ≤ s * 8 := Int.mul_le_mul_of_nonneg_left (by omega) h3.1
    omega
  · have : (L.map (strideL ls ds)).getD k 0 = 0 := by simp [List.getD_eq_getElem?_getD, List.getElem?_eq_none (Nat.le_of_not_lt hk)]
    rw [this]; simp
end InOk

/-! ### The contraction -/
theorem joinL_nd {a b : List Int} (ha : a.Nodup) (hb : b.Nodup) : (joinL a b).Nodup := by
  unfold joinL
  refine List.nodup_append.2 ⟨ha, hb.filter _, fun x hx y hy e => ?_⟩
  subst e
  simp only [List.mem_filter, Bool.not_eq_true', has_false] at hy
  exact hy.2 hx
/-- The dimension that stands beside a label. -/
def dAt (L D : List Int) (x : Int) : Int := D.getD (place L x).toNat 0
theorem dAt_at {L D : List Int} {k : Nat} (hn : L.Nodup) (h : k < L.length) : dAt L D L[k] = D.getD k 0 := by
  rw [dAt, place_at h (fresh_of hn h)]; rfl
def conL (a b : Ten) : List Int := joinL a.labels b.labels
def conK (a b : Ten) (keep : List Int) : List Int := (conL a b).filter (has keep)
def conD (a b : Ten) (keep : List Int) : List Int := (conK a b keep).map (dAt (conL a b) (joinD a b))
def conO (a b : Ten) (keep : List Int) (i : Nat) : Nat := inOff (conK a b keep) (conD a b keep) (conL a b) (joinD a b) i
def conE (r : Rg) (wd : Nat) (a b : Ten) (i : Nat) : List Int := mulE r (cutE a.data wd (inOff a.labels a.dims (conL a b) (joinD a b) i)) (cutE b.data wd (inOff b.labels b.dims (conL a b) (joinD a b) i))
def conTo (r : Rg) (wd : Nat) (a b : Ten) (keep z : List Int) : Nat → List Int
  | 0 => z
  | i + 1 => putE (conTo r wd a b keep z i) (conO a b keep i * wd) (addE r (((conTo r wd a b keep z i).drop (conO a b keep i * wd)).take wd) (conE r wd a b i))
def conB (r : Rg) (a b : Ten) (keep : List Int) : Bool :=
  tensorOk r a.labels a.dims a.data && tensorOk r b.labels b.dims b.data && joinOk a b && decide (prodI (joinD a b) ≤ 65536) && decide (tsize (conK a b keep) (conD a b keep) ≠ -1)
def conR (r : Rg) (wd : Nat) (a b : Ten) (keep : List Int) : Ten :=
  ⟨conK a b keep, conD a b keep, conTo r wd a b keep (repE (zeroE r.k r.p wd) (prodN (conD a b keep))) (prodN (joinD a b))⟩
def conT (r : Rg) (a b : Ten) (keep : List Int) : Ten := bif conB r a b keep then conR r (width r).toNat a b keep else ⟨[], [], []⟩
theorem conKD_sz {a b : Ten} {keep xs : List Int} (a10 : axOk a.labels a.dims) (b10 : axOk b.labels b.dims) (ha : TSz 1048576 a) (hb : TSz 1048576 b) (hx : Sz 1048576 xs) : TSz 1048576 (⟨conK a b keep, conD a b keep, xs⟩ : Ten) := by
  have hll := joinL_len a.labels b.labels
  have l1 := a10.1
  have l2 := b10.1
  have hfl : (conK a b keep).length ≤ 24 := by
    have := filter_len (joinL a.labels b.labels) (joinL a.labels b.labels).length (has keep)
    rw [List.take_length] at this
    show ((joinL a.labels b.labels).filter (has keep)).length ≤ 24
    omega
  refine ⟨⟨by show (conK a b keep).length ≤ _; omega, fun x hx => (mem_joinL.1 ((List.mem_filter.1 hx).1)).elim (ha.l.wf x) (hb.l.wf x)⟩, ⟨by show (conD a b keep).length ≤ _; rw [conD, List.length_map]; omega, fun x hx => ?_⟩, hx⟩
  obtain ⟨y, hy, rfl⟩ := List.mem_map.1 hx
  rcases Nat.lt_or_ge (place (conL a b) y).toNat (joinD a b).length with h | h
  · have := joinD_bd a10 b10 (dAt (conL a b) (joinD a b) y) (by rw [dAt, getD_of h]; exact List.getElem_mem h)
    exact ⟨by omega, by omega⟩
  · have : dAt (conL a b) (joinD a b) y = 0 := by simp [dAt, List.getD_eq_getElem?_getD, List.getElem?_eq_none h]
    rw [this]; exact ⟨by omega, by omega⟩
theorem sz_nil : Sz 1048576 [] := ⟨by simp, by simp⟩
theorem digits_zr {ds : List Int} : digits ds 0 = List.replicate ds.length 0 := by
  refine List.ext_getElem (by simp [digits_len]) fun q h1 h2 => ?_
  have h3 : q < ds.length := by simpa [digits_len] using h1
  have h5 := digits_get ds 0 q h3
  rw [getD_of h1] at h5
  rw [h5]
  simp [digit]
/-- What is known of two tensors that are contracted. -/
structure ConOk (r : Rg) (a b : Ten) (keep : List Int) (wd na nb n N : Nat) : Prop where
  ring : ringOk r = true
  w : width r = wd
  wb : 1 ≤ wd ∧ wd ≤ 6
  ja : joinOk a b = true
  la : a.data.length = na * wd
  lb : b.data.length = nb * wd
  fa : fits r a.data
  fb : fits r b.data
  ia : InOk a.labels a.dims (conL a b) (joinD a b) na
  ib : InOk b.labels b.dims (conL a b) (joinD a b) nb
  io : InOk (conK a b keep) (conD a b keep) (conL a b) (joinD a b) n
  pN : prodI (joinD a b) = N
  N1 : 1 ≤ N ∧ N ≤ 65536
theorem joinD_at {a b : Ten} {q : Nat} (hq : q < (conL a b).length) : (joinD a b).getD q 0 = if has a.labels (conL a b)[q] = true then dimAt a (conL a b)[q] else dimAt b (conL a b)[q] := by
  have h : q < (joinD a b).length := by simpa [joinD, conL] using hq
  rw [getD_of h]
  simp only [joinD, conL, List.getElem_map]
  rfl
theorem conOk_of {r : Rg} {a b : Ten} {keep : List Int} (h : conB r a b keep = true) : ∃ wd na nb n N : Nat, ConOk r a b keep wd na nb n N := by
  simp only [conB, Bool.and_eq_true, decide_eq_true_eq] at h
  obtain ⟨⟨⟨⟨h1, h2⟩, h3⟩, h4⟩, h5⟩ := h
  obtain ⟨wd, na, a1, a2, a3, a4, a5, a6, a7, a8, a9, a10⟩ := ten_facts h1
  obtain ⟨wd', nb, b1, b2, b3, b4, b5, b6, b7, b8, b9, b10⟩ := ten_facts h2
  have hwd : wd' = wd := by omega
  subst hwd
  have hnd : (conL a b).Nodup := joinL_nd (axOk_nodup a10) (axOk_nodup b10)
  have hdl : (joinD a b).length = (conL a b).length := by simp [joinD, conL]
  have hdb := joinD_bd a10 b10
  have hpj := joinD_prod a10 b10 (by omega) (by omega)
  obtain ⟨c1, c2, c3, c4⟩ := (tsize_cases (conK a b keep) (conD a b keep)).resolve_left h5
  have hsub : ∀ x ∈ conK a b keep, x ∈ conL a b := fun x hx => (List.mem_filter.1 hx).1
  refine ⟨wd', na, nb, (prodI (conD a b keep)).toNat, (prodI (joinD a b)).toNat, a9, a1, ⟨a3, a4⟩, h3, a7, b7, a8, b8, ?_, ?_, ?_, by omega, by omega⟩
  · refine ⟨a10, a2, ⟨a5, a6⟩, hnd, fun x hx => mem_joinL.2 (.inl hx), hdl, hdb, fun q hq hm => ?_⟩
    rw [joinD_at hq, if_pos (has_true.2 hm)]; rfl
  · refine ⟨b10, b2, ⟨b5, b6⟩, hnd, fun x hx => mem_joinL.2 (.inr hx), hdl, hdb, fun q hq hm => ?_⟩
    rw [joinD_at hq]
    split
    · rename_i hh
      exact joinOk_get h3 (has_true.1 hh) hm
    · rfl
  · refine ⟨c1, by omega, by omega, hnd, hsub, hdl, hdb, fun q hq hm => ?_⟩
    obtain ⟨i, hi, e1, e2, _⟩ := place_mem hm
    have e3 : dimAt ⟨conK a b keep, conD a b keep, []⟩ (conL a b)[q] = (conD a b keep).getD i 0 := by rw [dimAt, e1]; rfl
    have hi' : i < (conD a b keep).length := by simpa [conD] using hi
    rw [e3, getD_of hi']
    simp only [conD, List.getElem_map, e2]
    exact (dAt_at hnd hq).symm
section
variable {r : Rg} {a b : Ten} {keep : List Int} {wd na nb n N : Nat}
theorem ConOk.pO (h : ConOk r a b keep wd na nb n N) : prodN (conD a b keep) = n := by have := h.io.pn; unfold prodN; omega
theorem ConOk.pJ (h : ConOk r a b keep wd na nb n N) : prodN (joinD a b) = N := by have := h.pN; unfold prodN; omega
theorem ConOk.ca (h : ConOk r a b keep wd na nb n N) (i : Nat) : (cutE a.data wd (inOff a.labels a.dims (conL a b) (joinD a b) i)).length = wd := cutE_len h.la (h.ia.off i).2
theorem ConOk.cb (h : ConOk r a b keep wd na nb n N) (i : Nat) : (cutE b.data wd (inOff b.labels b.dims (conL a b) (joinD a b) i)).length = wd := cutE_len h.lb (h.ib.off i).2
theorem ConOk.el (h : ConOk r a b keep wd na nb n N) (i : Nat) : (conE r wd a b i).length = wd := (mulE_facts h.ring h.w (fits_cutE h.fa wd _) (fits_cutE h.fb wd _) (h.ca i) (h.cb i)).1
theorem ConOk.ef (h : ConOk r a b keep wd na nb n N) (i : Nat) : fits r (conE r wd a b i) := mulE_fits h.ring h.w (fits_cutE h.fa wd _) (fits_cutE h.fb wd _) (h.ca i) (h.cb i)
theorem conTo_ok (h : ConOk r a b keep wd na nb n N) {z : List Int} (hz : z.length = n * wd) (hf : fits r z) : ∀ i, (conTo r wd a b keep z i).length = n * wd ∧ fits r (conTo r wd a b keep z i)
  | 0 => ⟨hz, hf⟩
  | i + 1 => by
    obtain ⟨h1, h2⟩ := conTo_ok h hz hf i
    have h3 := h.io.cut h1 i
    have h3 : conO a b keep i * wd + wd ≤ (conTo r wd a b keep z i).length := h3
    have h4 := fits_cut h2 (conO a b keep i * wd) wd
    have h5 := addE_len (r := r) (cut_len h3) (h.el i)
    rw [conTo]
    exact ⟨by rw [putE_len (by rw [h5]; exact h3), h1], putE_fits h2 (addE_fits h.ring h4 (h.ef i))⟩
theorem ConOk.zl (h : ConOk r a b keep wd na nb n N) : (repE (zeroE r.k r.p wd) n).length = n * wd := by rw [repE_len, zeroE_len]
theorem ConOk.zf (h : ConOk r a b keep wd na nb n N) : fits r (repE (zeroE r.k r.p wd) n) := fits_of fun x hx => fits_mem (zeroE_fits h.ring) x (repE_mem n x hx)
theorem conR_eq (h : ConOk r a b keep wd na nb n N) : conR r wd a b keep = ⟨conK a b keep, conD a b keep, conTo r wd a b keep (repE (zeroE r.k r.p wd) n) N⟩ := by rw [conR, h.pO, h.pJ]
theorem conT_yes (hb : conB r a b keep = true) (h : ConOk r a b keep wd na nb n N) : conT r a b keep = conR r wd a b keep := by rw [conT, hb, h.w]; rfl
theorem conT_no (hb : conB r a b keep = false) : conT r a b keep = ⟨[], [], []⟩ := by rw [conT, hb]; rfl
theorem conT_sz (ha : TSz 1048576 a) (hb : TSz 1048576 b) : TSz 1048576 (conT r a b keep) := by
  cases hc : conB r a b keep
  · rw [conT_no hc]; exact ⟨⟨by simp, by simp⟩, ⟨by simp, by simp⟩, ⟨by simp, by simp⟩⟩
  · obtain ⟨wd, na, nb, n, N, h⟩ := conOk_of hc
    rw [conT_yes hc h, conR_eq h]
    obtain ⟨h1, h2⟩ := conTo_ok h h.zl h.zf N
    have h3 := h.io.ax.1
    have h4 := h.io.ax.len
    have h5 := h.io.n1
    have h6 : n * wd ≤ 4096 * 6 := Nat.mul_le_mul h5.2 h.wb.2
    refine ⟨⟨by show (conK a b keep).length ≤ _; omega, fun x hx => ?_⟩, ⟨by show (conD a b keep).length ≤ _; omega, fun x hx => ?_⟩, ⟨by show (conTo r wd a b keep _ N).length ≤ _; omega, fun x hx => ?_⟩⟩
    · rcases mem_joinL.1 ((List.mem_filter.1 hx).1) with h | h
      · exact ha.l.wf x h
      · exact hb.l.wf x h
    · have := h.io.ax.dim x hx; exact ⟨by omega, by omega⟩
    · have := fits_mem h2 x hx; have := top_bd h.ring; exact ⟨by omega, by omega⟩
end
end Go.Proofs.Ytcgnehacihjnkaa
