/-
  LIFT, part 25: a function's contract out of its body. No condition.
-/
import Derived.Test.YtjncdanegoileaaMgOrderCostB
import Derived.Test.YtjncdanegoileaaProg
import Derived.KernelRfl
import Derived.Test.YtjncdanegoileaaRows
import Derived.WalkKit
import Derived.ProofKit
import Derived.WalkSpells
import Derived.WalkLawsBesides
import Derived.Lib.Hide
import Derived.Deep.AppendLies
import Derived.Deep.Draws
import Derived.BigQuiet
import Derived.Deep.QuietTactic
import Derived.Lib.SmallJoins
import Derived.OpenShut
import Derived.ChangeOld
import Derived.Deep.RegionHeld3
import Derived.Deep.DeepCutAuto
namespace Go.Lift
open Go.RowKit

section
variable {P : Program} {w : World} {γ : Labels} {φ : Nat → Nat} {σ : Sto} {env : List AV} {a : Act}

/-- A result variable, read. -/
def rvRun (tmps : Array Value) : ResultVar → Sem Value
  | .tmp t => pure (tmps.getD t undef)
  | .cell b t => do loadVar t (← asAddr (tmps.getD b undef))

theorem resOne_rel (hS : Sim γ φ (at_ σ) w) (hE : RelL w γ φ (at_ σ) env a.tmps.toList) {x : ResultVar} {y : RV} (hc : cRV P x = some y) {r : AV} (h : resOne env σ y = some r) :
    ∃ v, (rvRun a.tmps x).run P w = .ok v w ∧ Rel w γ φ (at_ σ) r v := by
  cases x with
  | tmp t =>
    simp only [cRV, Option.some.injEq] at hc
    subst hc
    simp only [resOne, Option.some.injEq] at h
    subst h
    exact ⟨_, rfl, relL_getD hE t⟩
  | cell b t =>
    simp only [cRV] at hc
    split at hc
    · rename_i n hg hn
      simp only [Option.some.injEq] at hc
      subst hc
      simp only [resOne] at h
      split at h
      · rename_i k off hev
        split at h
        · rename_i R hR
          split at h
          · rename_i hle
            simp only [Option.some.injEq] at h
            subst h
            have hp := relL_getD hE b
            rw [hev] at hp
            simp only [Rel] at hp
            obtain ⟨_, _, hp⟩ := hp
            obtain ⟨vs, hvl, hvs⟩ := cells_list (w := w) (ad := ⟨φ k, off, none⟩) (n := n) (Q := fun j v => ∀ av, R.cells[off + j]? = some av → Rel w γ φ (at_ σ) (cv k (off + j) av) v) (fun j hj => by
              obtain ⟨v, hv, hrel⟩ := ptr_cell hS hR (off := off + j) (av := R.cells[off + j]'(by omega)) (by simp)
              exact ⟨v, by rw [add_none]; exact hv, fun av hav => by rw [List.getElem?_eq_getElem (by omega)] at hav; simp at hav; subst hav; exact hrel⟩)
            have hl := run_loadCells_list (P := P) w ⟨φ k, off, none⟩ vs (fun j v hv => (hvs j v hv).1)
            rw [hvl] at hl
            obtain ⟨i, hi, hsz⟩ : ∃ i, P.info? t = some i ∧ i.size = n := by simpa [szOf] using hn
            refine ⟨.agg vs.toArray, ?_, ?_⟩
            · simp only [rvRun, hp, asAddr]
              simp [loadVar, isAgg_run hg, sizeOf, typeInfo, hi, hsz, hl]
            · simp only [Rel]
              refine ⟨_, rfl, RelL.of_get ?_ fun i x hx => ?_⟩
              · simp only [cvL_len, List.length_take, List.length_drop]; omega
              · rw [cvL_get] at hx
                simp only [Option.map_eq_some_iff, List.getElem?_take, List.getElem?_drop] at hx
                obtain ⟨av, hav, rfl⟩ := hx
                split at hav
                · rename_i hi
                  have hlt : i < vs.length := by omega
                  exact ⟨vs[i], by simp [hlt], (hvs i _ (by simp [hlt])).2 av hav⟩
                · cases hav
          · cases h
        · cases h
      · cases h
    · cases hc
theorem resL_rel (hS : Sim γ φ (at_ σ) w) (hE : RelL w γ φ (at_ σ) env a.tmps.toList) : ∀ {l : List ResultVar} {rs : List RV}, cRVs P l = some rs → ∀ {m : List AV}, resL env σ rs = some m →
    ∃ vs, (l.mapM (rvRun a.tmps)).run P w = .ok vs w ∧ RelL w γ φ (at_ σ) m vs
  | [], rs, hc, m, h => by
    simp only [cRVs, Option.some.injEq] at hc
    subst hc
    simp only [resL, Option.some.injEq] at h
    subst h
    exact ⟨[], rfl, by simp [RelL]⟩
  | x :: l, rs, hc, m, h => by
    simp only [cRVs] at hc
    split at hc
    · rename_i y rs' hy hrs
      simp only [Option.some.injEq] at hc
      subst hc
      simp only [resL] at h
      split at h
      · rename_i z m' hz hm
        simp only [Option.some.injEq] at h
        subst h
        obtain ⟨v, hv, hr⟩ := resOne_rel hS hE hy hz
        obtain ⟨vs, hvs, hrl⟩ := resL_rel hS hE hrs hm
        refine ⟨v :: vs, ?_, by simp only [RelL]; exact ⟨v, vs, rfl, hr, hrl⟩⟩
        rw [List.mapM_cons, Sem.run_bind, hv]
        simp only [Result.andThen_ok, Sem.run_bind, hvs, Sem.run_pure]
      · cases h
    · cases hc
theorem results_rel {fn : Func} (hS : Sim γ φ (at_ σ) w) (hE : RelL w γ φ (at_ σ) env a.tmps.toList) {rs : List RV} (hc : cRVs P fn.results.toList = some rs) {r : AV} (h : resA rs env σ = some r) :
    ∃ v, (results fn a.tmps).run P w = .ok v w ∧ Rel w γ φ (at_ σ) r v := by
  unfold resA at h
  have key : ∀ {m}, resL env σ rs = some m → ∃ vs : List Value, (results fn a.tmps).run P w = .ok (if h : vs.toArray.size = 1 then vs.toArray[0] else .tuple vs.toArray) w ∧ RelL w γ φ (at_ σ) m vs := by
    intro m hm
    obtain ⟨vs, hvs, hrl⟩ := resL_rel hS hE hc hm
    refine ⟨vs, ?_, hrl⟩
    have he : results fn a.tmps = (do let vs ← fn.results.mapM (rvRun a.tmps); pure (if h : vs.size = 1 then vs[0] else .tuple vs)) := by
      unfold results
      rfl
    rw [he, Sem.run_bind, Array.mapM_eq_mapM_toList, Sem.run_map, hvs]
    rfl
  split at h
  · rename_i x hm
    simp only [Option.some.injEq] at h
    subst h
    obtain ⟨vs, hvs, hrl⟩ := key hm
    simp only [RelL] at hrl
    obtain ⟨v, vs', rfl, hr, rfl⟩ := hrl
    exact ⟨v, by rw [hvs]; rfl, hr⟩
  · rename_i m hne hm
    simp only [Option.some.injEq] at h
    subst h
    obtain ⟨vs, hvs, hrl⟩ := key hm
    refine ⟨.tuple vs.toArray, ?_, by simp only [Rel]; exact ⟨_, rfl, hrl⟩⟩
    have hl := hrl.len
    have h1 : ¬ vs.toArray.size = 1 := by
      intro h1
      have : m.length = 1 := by simp at h1; omega
      match m, this with
      | [x], _ => exact hne x rfl
    rw [hvs, dif_neg h1]
  · cases h
end

theorem bodyPost_put {P : Program} {fn : Func} {R : Ending → World → Prop} {c : _} {a : Act} {dst : Option Tmp} {v : Value} {w : World} (h : bodyPost P fn R (Exit.panic c) (a.put dst v) w) : bodyPost P fn R (.panic c) a w := by
  cases dst with
  | none => exact h
  | some d => exact h
theorem spec_of {P : Program} {f : FuncId} {fn : Func} {F : Fun} {args : List AV} {σ0 : Sto} {res : AV} {σ1 : Sto} (hm : P.follows .mixedOrders = true) (hf : P.funcs[f]? = some fn) (hF : cFun P fn = some F.erase) (h : FnOk P F args σ0 res σ1) : Does P f args σ0 res σ1 := by
  intro γ φ w vals hS hargs
  unfold cFun at hF
  split at hF
  · rename_i cd hb
    split at hF
    · rename_i b rs hcc hrs
      split at hF
      · obtain ⟨np, nt, bd, rs'⟩ := F
        simp only [Fun.erase, Option.some.injEq, Fun.mk.injEq] at hF
        obtain ⟨rfl, rfl, rfl, rfl⟩ := hF
        obtain ⟨hlen, hwp⟩ := h
        simp only at hlen hwp
        have hal := hargs.len
        refine calls_of_wp hf hb (wpC_sound (γe := γ) (φ0 := φ) (we := w) (σ0 := σ0) hm bd cd hcc hwp ⟨γ, φ, Kst.refl _ _, hS, ?_, rfl, fun k R hk hg => ⟨Stay.refl, R, hk, hg⟩⟩ (fun x env σ a w' hpost hSR => ?_) (fun c a dst v w h => bodyPost_put h))
        · have he : (vals.toArray ++ Array.replicate (fn.ntmps - vals.toArray.size) undef).toList = vals ++ List.replicate (fn.ntmps - args.length) undef := by simp [hal]
          show RelL w γ φ (at_ σ0) _ (vals.toArray ++ Array.replicate (fn.ntmps - vals.toArray.size) undef).toList
          rw [he]
          refine hargs.append ?_
          generalize fn.ntmps - args.length = n
          induction n with
          | zero => simp [RelL]
          | succ n ih => simp only [List.replicate_succ, RelL]; exact ⟨_, _, rfl, by simp [Rel], ih⟩
        · obtain ⟨hx, env', σ', hwk, hge, r, ids, hr, hnd, hids, hnrm⟩ := hpost
          replace hSR := wk_sound hwk hSR
          clear hwk
          revert env' σ'
          intro env σ hge hr hnrm hSR
          obtain ⟨γ1, φ1, hK1, hS1, hE1, hd1, hfix1⟩ := hSR
          obtain ⟨v, hv, hrel⟩ := results_rel (fn := fn) hS1 hE1 hrs hr
          -- the names of what is kept
          unfold nrm at hnrm
          simp only [Prod.mk.injEq] at hnrm
          obtain ⟨hres, hσ1⟩ := hnrm
          let φ2 : Nat → Nat := fun k' => if k' < σ0.length then φ1 k' else φ1 (ids.getD (k' - σ0.length) 0)
          have hat1 : ∀ k', at_ σ1 k' = (if k' < σ0.length then at_ σ k' else ((ids[k' - σ0.length]?).bind (at_ σ))).map (fun R => { R with cells := rnL (nrmR σ0.length ids) R.cells }) := by
            intro k'
            have htl : (σ.take σ0.length).length = σ0.length := by simp; omega
            rw [← hσ1]
            simp only [at_, List.getElem?_map, List.getElem?_append, htl]
            by_cases hk : k' < σ0.length
            · rw [if_pos hk, if_pos hk, List.getElem?_take, if_pos hk]
              cases σ[k']? with
              | none => rfl
              | some x => cases x <;> rfl
            · rw [if_neg hk, if_neg hk]
              cases hi : ids[k' - σ0.length]? with
              | none => simp
              | some i =>
                simp only [hi, Option.map_some, Option.bind_some, at_]
                cases σ[i]? with
                | none => rfl
                | some x => cases x <;> rfl
          have hRen : Ren (nrmR σ0.length ids) φ1 (at_ σ) φ2 (at_ σ1) := by
            refine ⟨fun k k' R hk hR => ?_, fun k' R' hR' => ?_, fun k1 k2 k' h1 h2 => ?_⟩
            · unfold nrmR at hk
              split at hk
              · rename_i hlt
                simp only [Option.some.injEq] at hk
                subst hk
                exact ⟨by simp [φ2, hlt], by rw [hat1, if_pos hlt, hR]; rfl⟩
              · simp only [Option.map_eq_some_iff] at hk
                obtain ⟨j, hj, rfl⟩ := hk
                have hg := posOf_get hj
                have hnl : ¬ j + σ0.length < σ0.length := by omega
                refine ⟨by simp [φ2, hnl, hg], ?_⟩
                rw [hat1, if_neg hnl, show j + σ0.length - σ0.length = j by omega, hg]
                simp [hR]
            · rw [hat1] at hR'
              simp only [Option.map_eq_some_iff] at hR'
              obtain ⟨R, hR, _⟩ := hR'
              split at hR
              · rename_i hlt
                exact ⟨k', R, by simp [nrmR, hlt], hR⟩
              · rename_i hlt
                simp only [Option.bind_eq_some_iff] at hR
                obtain ⟨i, hi, hR⟩ := hR
                have hil : ¬ i < σ0.length := by have := hids i (List.mem_of_getElem? hi); omega
                refine ⟨i, R, ?_, hR⟩
                unfold nrmR
                rw [if_neg hil, posOf_of hnd hi]
                simp
                omega
            · unfold nrmR at h1 h2
              split at h1 <;> split at h2
              · simp only [Option.some.injEq] at h1 h2; omega
              · simp only [Option.some.injEq, Option.map_eq_some_iff] at h1 h2
                obtain ⟨j, _, h2⟩ := h2
                omega
              · simp only [Option.some.injEq, Option.map_eq_some_iff] at h1 h2
                obtain ⟨j, _, h1⟩ := h1
                omega
              · simp only [Option.map_eq_some_iff] at h1 h2
                obtain ⟨j1, h3, h4⟩ := h1
                obtain ⟨j2, h5, h6⟩ := h2
                have : j1 = j2 := by omega
                subst this
                have e1 := posOf_get h3
                have e2 := posOf_get h5
                rw [e1] at e2
                simpa using e2
          obtain ⟨hK2, hS2⟩ := hS1.rn hRen
          have hrel2 := Rel.rn hRen r v hrel
          rw [hres] at hrel2
          have hgoal : ∃ v', Ending.returned v = .returned v' ∧ ∃ γ' φ', Kst γ w γ' w' ∧ (∀ k R, at_ σ0 k = some R → R.g = false → Stay γ φ γ' φ' k) ∧ Sim γ' φ' (at_ σ1) w' ∧ Rel w' γ' φ' (at_ σ1) res v' := by
            refine ⟨v, rfl, _, φ2, hK1.trans hK2, fun k R hk hg => ?_, hS2, hrel2⟩
            have hlt : k < σ0.length := by
              by_cases h : k < σ0.length
              · exact h
              · simp [at_, List.getElem?_eq_none (Nat.le_of_not_lt h)] at hk
            have h1 := (hfix1 k R hk hg).1
            refine ⟨by simp only [φ2, if_pos hlt]; exact h1.1, fun hl => ?_⟩
            have h2 := h1.2 hl
            simp [h2, Lab.rn, nrmR, hlt]
          obtain ⟨v', e, γ', φ', g1, g2, g3, g4⟩ := hgoal
          cases x with
          | normal => exact ⟨hd1, v, hv, v', γ', φ', e, g1, g2, g3, g4⟩
          | ret => exact ⟨hd1, v, hv, v', γ', φ', e, g1, g2, g3, g4⟩
          | exit id => exact hx.elim
      · cases hF
    · cases hF
  · cases hF
#print axioms spec_of
end Go.Lift

/-
  LIFT, part 26: the weakest preconditions with a continuation for each way out; how a step reads. No condition.
-/
namespace Go.Lift

theorem wrapE {x : Int} (h1 : -9223372036854775808 ≤ x) (h2 : x ≤ 9223372036854775807) : IntKind.i64.wrap x = x := wrap_of ⟨h1, h2⟩
/-- An equation that simp does not take for a definition (the kernel then sees its steps). -/
theorem nr {α : Sort _} {a b : α} (h : a = b) : a = b := h
/-- Code with its three ways out. -/
def wpN (P : Program) (m0 : Nat) (c : C) (N : List AV → Sto → Prop) (X : Nat → List AV → Sto → Prop) (R : List AV → Sto → Prop) (e : List AV) (σ : Sto) : Prop :=
  wpC P m0 c (fun x => match x with
    | .normal => N
    | .exit i => X i
    | .ret => R) e σ

section
variable {P : Program} {m0 : Nat} {N : List AV → Sto → Prop} {X : Nat → List AV → Sto → Prop} {R : List AV → Sto → Prop} {e : List AV} {σ : Sto}
theorem wpN_skip : wpN P m0 .skip N X R e σ = N e σ := nr rfl
theorem wpN_reg (l : List Ins) : wpN P m0 (.reg l) N X R e σ = Lift.runT P l e σ N := nr rfl
theorem wpN_draw (p t : List Ins) : wpN P m0 (.draw p t) N X R e σ = runG P p e σ fun e σ => Lift.runT P t e σ N := nr rfl
theorem wpN_seq (a b : C) : wpN P m0 (.seq a b) N X R e σ = wpN P m0 a (wpN P m0 b N X R) X R e σ := by
  unfold wpN
  rw [wpC]
  congr 1
  funext x
  cases x <;> rfl
theorem wpN_cond (c : O) (a b : C) : wpN P m0 (.cond c a b) N X R e σ = match c.ev e with
    | .d (.bool t) => if t = true then wpN P m0 a N X R e σ else wpN P m0 b N X R e σ
    | _ => False := nr rfl
theorem wpN_block (id : Nat) (b : C) : wpN P m0 (.block id b) N X R e σ = wpN P m0 b N (fun i e σ => if i = id then N e σ else X i e σ) R e σ := by
  unfold wpN
  rw [wpC]
  congr 1
  funext x
  cases x <;> rfl
theorem wpN_exit (id : Nat) : wpN P m0 (.exit id) N X R e σ = X id e σ := nr rfl
theorem wpN_ret : wpN P m0 .ret N X R e σ = R e σ := nr rfl
/-- A place at which the state may be seen otherwise. -/
def GH (m0 : Nat) (N : List AV → Sto → Prop) (e : List AV) (σ : Sto) : Prop := ∃ e' σ', Wk m0 e σ e' σ' ∧ N e' σ'
theorem GH.mk {e' : List AV} {σ' : Sto} (h : Wk m0 e σ e' σ') (hN : N e' σ') : GH m0 N e σ := ⟨e', σ', h, hN⟩
theorem wpN_gh (a : C) : wpN P m0 (.gh a) N X R e σ = wpN P m0 a (GH m0 N) X R e σ := by
  unfold wpN
  rw [wpC]
  congr 1
  funext x
  cases x <;> rfl
theorem Wk.kept (live : List Nat) (n : Nat) {e e' : List AV} {σ σ' : Sto} (h1 : keepE live n e = e') (h2 : keepS n σ = σ') (hn : m0 ≤ n) : Wk m0 e σ e' σ' := by
  subst h1 h2
  exact .keep live n e σ hn
/-- A loop whose rounds are counted: at the head of round k of n the state is J k. -/
theorem wpN_loop {b : C} (J : Nat → List AV → Sto → Prop) (h0 : ∃ m e' σ', Wk m0 e σ e' σ' ∧ J m e' σ') (hr : ∀ m e σ, J m e σ → wpN P m0 b (fun e σ => ∃ m' e' σ', m' < m ∧ Wk m0 e σ e' σ' ∧ J m' e' σ') X R e σ) : wpN P m0 (.loop b) N X R e σ := by
  unfold wpN
  rw [wpC]
  refine ⟨J, h0, fun m e σ hJ => ?_⟩
  have := hr m e σ hJ
  unfold wpN at this
  refine cast (congrArg (fun K => wpC P m0 b K e σ) ?_) this
  funext x
  cases x <;> rfl
/-- Rounds counted upwards from 0 to n: what stands behind round k. -/
def Next (m0 n : Nat) (E : Nat → List AV) (S : Nat → Sto) (k : Nat) (e : List AV) (σ : Sto) : Prop :=
  ∃ m' e' σ', m' < n - k ∧ Wk m0 e σ e' σ' ∧ ∃ k', k' ≤ n ∧ m' = n - k' ∧ e' = E k' ∧ σ' = S k'
theorem Next.mk {n k : Nat} {E : Nat → List AV} {S : Nat → Sto} (h : k < n) (hw : Wk m0 e σ (E (k + 1)) (S (k + 1))) : Next m0 n E S k e σ :=
  ⟨n - (k + 1), _, _, by omega, hw, k + 1, by omega, rfl, rfl, rfl⟩
theorem wpN_upto {b : C} (n : Nat) (E : Nat → List AV) (S : Nat → Sto) (h0 : Wk m0 e σ (E 0) (S 0))
    (hr : ∀ k, k ≤ n → wpN P m0 b (Next m0 n E S k) X R (E k) (S k)) : wpN P m0 (.loop b) N X R e σ := by
  refine wpN_loop (fun m e σ => ∃ k, k ≤ n ∧ m = n - k ∧ e = E k ∧ σ = S k) ⟨n, _, _, h0, 0, Nat.zero_le _, by omega, rfl, rfl⟩ ?_
  rintro m e σ ⟨k, hk, rfl, rfl, rfl⟩
  exact hr k hk

/-- The same, with what is known at the head of round k. -/
def NextI (m0 n : Nat) (I : Nat → Prop) (E : Nat → List AV) (S : Nat → Sto) (k : Nat) (e : List AV) (σ : Sto) : Prop :=
  ∃ m' e' σ', m' < n - k ∧ Wk m0 e σ e' σ' ∧ ∃ k', k' ≤ n ∧ m' = n - k' ∧ I k' ∧ e' = E k' ∧ σ' = S k'
theorem NextI.mk {n k : Nat} {I : Nat → Prop} {E : Nat → List AV} {S : Nat → Sto} (h : k < n) (hi : I (k + 1)) (hw : Wk m0 e σ (E (k + 1)) (S (k + 1))) : NextI m0 n I E S k e σ :=
  ⟨n - (k + 1), _, _, by omega, hw, k + 1, by omega, rfl, hi, rfl, rfl⟩
theorem wpN_uptoI {b : C} (n : Nat) (I : Nat → Prop) (E : Nat → List AV) (S : Nat → Sto) (hi : I 0) (h0 : Wk m0 e σ (E 0) (S 0))
    (hr : ∀ k, k ≤ n → I k → wpN P m0 b (NextI m0 n I E S k) X R (E k) (S k)) : wpN P m0 (.loop b) N X R e σ := by
  refine wpN_loop (fun m e σ => ∃ k, k ≤ n ∧ m = n - k ∧ I k ∧ e = E k ∧ σ = S k) ⟨n, _, _, h0, 0, Nat.zero_le _, by omega, hi, rfl, rfl⟩ ?_
  rintro m e σ ⟨k, hk, rfl, hi, rfl, rfl⟩
  exact hr k hk hi

/-- At a function's end. -/
def FnEnd (l : List RV) (m : Nat) (res : AV) (σ1 : Sto) (env : List AV) (σ : Sto) : Prop :=
  ∃ env' σ', Wk m env σ env' σ' ∧ m ≤ σ'.length ∧ ∃ r ids, resA l env' σ' = some r ∧ ids.Nodup ∧ (∀ k ∈ ids, m ≤ k) ∧ nrm m ids r σ' = (res, σ1)
theorem FnEnd.wk {l : List RV} {m : Nat} {res : AV} {σ1 σ' : Sto} {env' : List AV} (h : Wk m e σ env' σ') (h' : FnEnd l m res σ1 env' σ') : FnEnd l m res σ1 e σ := by
  obtain ⟨e2, σ2, h1, h2⟩ := h'
  exact ⟨e2, σ2, h.trans h1, h2⟩
theorem FnEnd.mk {l : List RV} {m : Nat} {r res : AV} {σ σ1 : Sto} {env : List AV} (h0 : m ≤ σ.length) (h1 : resA l env σ = some r) (h2 : (idsN m r).Nodup) (h4 : rn (nrmR m (idsN m r)) r = res)
    (h5 : (σ.take m ++ (idsN m r).map (at_ σ)).map (Option.map fun R => { R with cells := rnL (nrmR m (idsN m r)) R.cells }) = σ1) : FnEnd l m res σ1 env σ :=
  ⟨env, σ, Wk.refl _ _, h0, r, idsN m r, h1, h2, (fun k hk => by simpa using (List.mem_filter.1 hk).2), Prod.ext h4 h5⟩
/-- The same, with the roots that are kept by their numbers. -/
theorem FnEnd.mkI (ids : List Nat) {l : List RV} {m : Nat} {r res : AV} {σ σ1 : Sto} {env : List AV} (h0 : m ≤ σ.length) (h1 : resA l env σ = some r) (h2 : ids.Nodup) (h3 : ids.all (fun k => decide (m ≤ k)) = true) (h4 : rn (nrmR m ids) r = res)
    (h5 : (σ.take m ++ ids.map (at_ σ)).map (Option.map fun R => { R with cells := rnL (nrmR m ids) R.cells }) = σ1) : FnEnd l m res σ1 env σ :=
  ⟨env, σ, Wk.refl _ _, h0, r, ids, h1, h2, (fun k hk => by simpa using List.all_eq_true.1 h3 k hk), Prod.ext h4 h5⟩
/-- A function's contract, by its body with the ways out; its length as a number. -/
theorem fnOk {F : Fun} {args : List AV} {σ0 : Sto} {res : AV} {σ1 : Sto} (hlen : args.length ≤ F.nt)
    (h : wpN P σ0.length F.body (FnEnd F.res σ0.length res σ1) (fun _ _ _ => False) (FnEnd F.res σ0.length res σ1) (args ++ List.replicate (F.nt - args.length) .und) σ0) : FnOk P F args σ0 res σ1 := by
  refine ⟨hlen, ?_⟩
  unfold wpN at h
  refine cast (congrArg (fun K => wpC P σ0.length F.body K (args ++ List.replicate (F.nt - args.length) .und) σ0) ?_) h
  funext x env σ
  cases x <;> simp [FnEnd]
end
end Go.Lift

/-
  LIFT, part 26b: how a step reads, with continuations that simp does not enter (written by gen_eq.py). No condition.
-/
namespace Go.Lift
/-- Behind an operation that makes nothing. -/
def KR (K : AV → Sto → Prop) (r : AV) : Prop := K r []
/-- Behind an operation that writes nothing. -/
def TG (K : Fg → AV → Sto → Prop) (σ : Sto) (r : AV) (news : Sto) : Prop := K .no r (σ ++ news)
def SG (P : Program) (l : List Ins) (e : List AV) (σ : Sto) (d : Option Nat) (K : List AV → Sto → Prop) (r : AV) (news : Sto) : Prop := runG P l (put e d r) (σ ++ news) K
def ST (P : Program) (l : List Ins) (e : List AV) (d : Option Nat) (K : List AV → Sto → Prop) (ks : Fg) (r : AV) (σ : Sto) : Prop := Lift.runT P l (put (forget ks e) d r) σ K
def DK (P : Program) (t : List Ins) (N : List AV → Sto → Prop) (e : List AV) (σ : Sto) : Prop := Lift.runT P t e σ N
def XB (id : Nat) (N : List AV → Sto → Prop) (X : Nat → List AV → Sto → Prop) (i : Nat) (e : List AV) (σ : Sto) : Prop := if i = id then N e σ else X i e σ
section
variable {P : Program} {σ : Sto} {s : St} {ev : O → AV} {k0 : Nat} {K : AV → Sto → Prop} {T : Fg → AV → Sto → Prop} {N : List AV → Sto → Prop} {l : List Ins} {e : List AV} {d : Option Nat} {r : AV} {news : Sto} {ks : Fg} {m0 : Nat} {X : Nat → List AV → Sto → Prop} {R : List AV → Sto → Prop} {t : List Ins} {op : I}
theorem kr_kg : KR (SG P l e σ d N) r = runG P l (put e d r) σ N := by simp only [KR, SG, List.append_nil]
theorem kr_tg : KR (TG (ST P l e d N) σ) r = Lift.runT P l (put e d r) σ N := by simp only [KR, TG, ST, List.append_nil, forget]
theorem kg : SG P l e σ d N r news = runG P l (put e d r) (σ ++ news) N := nr rfl
theorem kt_tg : TG (ST P l e d N) σ r news = Lift.runT P l (put e d r) (σ ++ news) N := nr rfl
theorem kt : ST P l e d N ks r σ = Lift.runT P l (put (forget ks e) d r) σ N := nr rfl
theorem dk : DK P t N e σ = Lift.runT P t e σ N := nr rfl
theorem xb (id i : Nat) : XB id N X i e σ = if i = id then N e σ else X i e σ := nr rfl
theorem rg_nil : runG P [] e σ N = N e σ := nr rfl
theorem rt_nil : Lift.runT P [] e σ N = N e σ := nr rfl
theorem rg_cons : runG P (⟨d, none, op⟩ :: l) e σ N = gI P (at_ σ) (O.ev e) σ.length op (SG P l e σ d N) := nr rfl
theorem rt_cons : Lift.runT P (⟨d, none, op⟩ :: l) e σ N = tI P σ (O.ev e) op (ST P l e d N) := nr rfl
/-- An operation with a guard: nothing is read of what follows until the guard is known. -/
def GG (x : AV) (w : Bool) (P : Program) (d : Option Nat) (op : I) (l : List Ins) (e : List AV) (σ : Sto) (N : List AV → Sto → Prop) : Prop := match x with
    | .d (.bool b) => if b = w then gI P (at_ σ) (O.ev e) σ.length op (SG P l e σ d N) else runG P l (put e d .und) σ N
    | .und => runG P l (put e d .und) σ N
    | _ => False
def GT (x : AV) (w : Bool) (P : Program) (d : Option Nat) (op : I) (l : List Ins) (e : List AV) (σ : Sto) (N : List AV → Sto → Prop) : Prop := match x with
    | .d (.bool b) => if b = w then tI P σ (O.ev e) op (ST P l e d N) else Lift.runT P l (put e d .und) σ N
    | .und => Lift.runT P l (put e d .und) σ N
    | _ => False
def PK (x a b : AV) (K : AV → Sto → Prop) : Prop := match x with
    | .d (.bool t) => if t = true then KR K a else KR K b
    | _ => False
/-- A test: nothing is read of the ways behind it until it is known. -/
def CD (x : AV) (P : Program) (m0 : Nat) (a b : C) (N : List AV → Sto → Prop) (X : Nat → List AV → Sto → Prop) (R : List AV → Sto → Prop) (e : List AV) (σ : Sto) : Prop := match x with
    | .d (.bool t) => if t = true then wpN P m0 a N X R e σ else wpN P m0 b N X R e σ
    | _ => False
theorem rg_guard (g : Nat) (w : Bool) : runG P (⟨d, some (g, w), op⟩ :: l) e σ N = GG (e.getD g .any) w P d op l e σ N := nr rfl
theorem rt_guard (g : Nat) (w : Bool) : Lift.runT P (⟨d, some (g, w), op⟩ :: l) e σ N = GT (e.getD g .any) w P d op l e σ N := nr rfl
theorem gg_tt : GG (.d (.bool true)) true P d op l e σ N = gI P (at_ σ) (O.ev e) σ.length op (SG P l e σ d N) := nr rfl
theorem gg_ff : GG (.d (.bool false)) false P d op l e σ N = gI P (at_ σ) (O.ev e) σ.length op (SG P l e σ d N) := nr rfl
theorem gg_tf : GG (.d (.bool true)) false P d op l e σ N = runG P l (put e d .und) σ N := nr rfl
theorem gg_ft : GG (.d (.bool false)) true P d op l e σ N = runG P l (put e d .und) σ N := nr rfl
theorem gg_und (w : Bool) : GG .und w P d op l e σ N = runG P l (put e d .und) σ N := nr rfl
theorem gt_tt : GT (.d (.bool true)) true P d op l e σ N = tI P σ (O.ev e) op (ST P l e d N) := nr rfl
theorem gt_ff : GT (.d (.bool false)) false P d op l e σ N = tI P σ (O.ev e) op (ST P l e d N) := nr rfl
theorem gt_tf : GT (.d (.bool true)) false P d op l e σ N = Lift.runT P l (put e d .und) σ N := nr rfl
theorem gt_ft : GT (.d (.bool false)) true P d op l e σ N = Lift.runT P l (put e d .und) σ N := nr rfl
theorem gt_und (w : Bool) : GT .und w P d op l e σ N = Lift.runT P l (put e d .und) σ N := nr rfl
theorem wpN_cd (c : O) (a b : C) : wpN P m0 (.cond c a b) N X R e σ = CD (c.ev e) P m0 a b N X R e σ := nr rfl
theorem cd_t (a b : C) : CD (.d (.bool true)) P m0 a b N X R e σ = wpN P m0 a N X R e σ := nr rfl
theorem cd_f (a b : C) : CD (.d (.bool false)) P m0 a b N X R e σ = wpN P m0 b N X R e σ := nr rfl
theorem pk_t (a b : AV) : PK (.d (.bool true)) a b K = KR K a := nr rfl
theorem pk_f (a b : AV) : PK (.d (.bool false)) a b K = KR K b := nr rfl
theorem wpN_drw (p t : List Ins) : wpN P m0 (.draw p t) N X R e σ = runG P p e σ (DK P t N) := nr rfl
theorem wpN_blk (id : Nat) (b : C) : wpN P m0 (.block id b) N X R e σ = wpN P m0 b N (XB id N X) R e σ := wpN_block id b

theorem gi_mv (x : O) : gI P s ev k0 (.mv x) K = KR K (ev x) := nr rfl
theorem ti_mv (x : O) : tI P σ ev (.mv x) T = gI P (at_ σ) ev σ.length (.mv x) (TG T σ) := nr rfl
theorem gi_pick (c : O) (a : O) (b : O) : gI P s ev k0 (.pick c a b) K = PK (ev c) (ev a) (ev b) K := nr rfl
theorem ti_pick (c : O) (a : O) (b : O) : tI P σ ev (.pick c a b) T = gI P (at_ σ) ev σ.length (.pick c a b) (TG T σ) := nr rfl
theorem gi_box (x : O) : gI P s ev k0 (.box x) K = match cellsA (ev x) with
    | some l => K (.ptr k0 0) [some ⟨0, false, l⟩]
    | none => False := nr rfl
theorem ti_box (x : O) : tI P σ ev (.box x) T = gI P (at_ σ) ev σ.length (.box x) (TG T σ) := nr rfl
theorem gi_zer (z : List AV) : gI P s ev k0 (.zer z) K = K (.ptr k0 0) [some ⟨0, false, z⟩] := nr rfl
theorem ti_zer (z : List AV) : tI P σ ev (.zer z) T = gI P (at_ σ) ev σ.length (.zer z) (TG T σ) := nr rfl
theorem gi_agg (z : List AV) (ps : List (Nat × Nat × O)) : gI P s ev k0 (.agg z ps) K = match fillA ev z ps with
    | some l => KR K (.agg l)
    | none => False := nr rfl
theorem ti_agg (z : List AV) (ps : List (Nat × Nat × O)) : tI P σ ev (.agg z ps) T = gI P (at_ σ) ev σ.length (.agg z ps) (TG T σ) := nr rfl
theorem gi_mksl (e : Nat) (n : Nat) (z : List AV) (ps : List (Nat × Nat × O)) : gI P s ev k0 (.mksl e n z ps) K = match fillA ev (zeros n z) ps with
    | some l => K (.own k0 0 n) [some ⟨e, true, l⟩]
    | none => False := nr rfl
theorem ti_mksl (e : Nat) (n : Nat) (z : List AV) (ps : List (Nat × Nat × O)) : tI P σ ev (.mksl e n z ps) T = gI P (at_ σ) ev σ.length (.mksl e n z ps) (TG T σ) := nr rfl
theorem gi_ld (a : O) : gI P s ev k0 (.ld a) K = match ev a with
    | .ptr k off => match s k with
      | some R => match R.cells[off]? with
        | some av => KR K (cv k off av)
        | none => False
      | none => False
    | .rptr l off => match l[off]? with
      | some x => KR K (.d x)
      | none => False
    | .sptr k j off => match s k with
      | some R => match R.cells[j]? with
        | some (.tr (.sl _ l)) => match l[off]? with
          | some (.int x) => KR K (.d (.int x))
          | some (.bool x) => KR K (.d (.bool x))
          | _ => False
        | _ => False
      | none => False
    | _ => False := nr rfl
theorem ti_ld (a : O) : tI P σ ev (.ld a) T = gI P (at_ σ) ev σ.length (.ld a) (TG T σ) := nr rfl
theorem gi_ldn (n : Nat) (a : O) : gI P s ev k0 (.ldn n a) K = match ev a with
    | .ptr k off => match s k with
      | some R => off + n ≤ R.cells.length ∧ KR K (.agg (cvL k off ((R.cells.drop off).take n)))
      | none => False
    | .rptr l off => off + n ≤ l.length ∧ KR K (.agg (((l.drop off).take n).map .d))
    | _ => False := nr rfl
theorem ti_ldn (n : Nat) (a : O) : tI P σ ev (.ldn n a) T = gI P (at_ σ) ev σ.length (.ldn n a) (TG T σ) := nr rfl
theorem gi_bin (op : BinOp) (x : O) (y : O) : gI P s ev k0 (.bin op x y) K = match ev x, ev y with
    | .d (.int a), .d (.int b) => binA op a b (KR K)
    | _, _ => False := nr rfl
theorem ti_bin (op : BinOp) (x : O) (y : O) : tI P σ ev (.bin op x y) T = gI P (at_ σ) ev σ.length (.bin op x y) (TG T σ) := nr rfl
theorem gi_binb (n : Bool) (x : O) (y : O) : gI P s ev k0 (.binb n x y) K = match ev x, ev y with
    | .d (.bool a), .d (.bool b) => KR K (.d (.bool (n ^^ (a == b))))
    | _, _ => False := nr rfl
theorem ti_binb (n : Bool) (x : O) (y : O) : tI P σ ev (.binb n x y) T = gI P (at_ σ) ev σ.length (.binb n x y) (TG T σ) := nr rfl
theorem gi_not (x : O) : gI P s ev k0 (.not x) K = match ev x with
    | .d (.bool a) => KR K (.d (.bool (!a)))
    | _ => False := nr rfl
theorem ti_not (x : O) : tI P σ ev (.not x) T = gI P (at_ σ) ev σ.length (.not x) (TG T σ) := nr rfl
theorem gi_neg (x : O) : gI P s ev k0 (.neg x) K = match ev x with
    | .d (.int a) => KR K (.d (.int (IntKind.i64.wrap (0 - a))))
    | _ => False := nr rfl
theorem ti_neg (x : O) : tI P σ ev (.neg x) T = gI P (at_ σ) ev σ.length (.neg x) (TG T σ) := nr rfl
theorem gi_make (e : Nat) (bytes : Nat) (z : List AV) (l : O) (c : O) : gI P s ev k0 (.make e bytes z l c) K = match ev l, ev c with
    | .d (.int l), .d (.int c) => (0 ≤ l ∧ l ≤ c ∧ bytes * c ≤ 281474976710656) ∧ K (.own k0 0 l.toNat) [some ⟨e, true, zeros l.toNat z⟩]
    | _, _ => False := nr rfl
theorem ti_make (e : Nat) (bytes : Nat) (z : List AV) (l : O) (c : O) : tI P σ ev (.make e bytes z l c) T = gI P (at_ σ) ev σ.length (.make e bytes z l c) (TG T σ) := nr rfl
theorem gi_slc (e : Nat) (x : O) (lo : Option O) (hi : Option O) : gI P s ev k0 (.slc e x lo hi) K = match ev x with
    | .own k off n => match optB ev lo 0, optB ev hi n, s k with
      | some l, some h, some R => (0 ≤ l ∧ l ≤ h ∧ h ≤ n) ∧ (R.g = true → R.e = e) ∧ KR K (if l = 0 ∨ l < h then .own k (off + l.toNat * e) (h - l).toNat else .d (.sl 0 []))
      | _, _, _ => False
    | .d (.sl n cs) => match optB ev lo 0, optB ev hi n with
      | some l, some h => (0 ≤ l ∧ l ≤ h ∧ h ≤ n) ∧ KR K (.d (.sl (h - l).toNat ((cs.drop (l.toNat * e)).take ((h - l).toNat * e))))
      | _, _ => False
    | .nil => match optB ev lo 0, optB ev hi 0 with
      | some l, some h => (l = 0 ∧ h = 0) ∧ KR K .nil
      | _, _ => False
    | _ => False := nr rfl
theorem ti_slc (e : Nat) (x : O) (lo : Option O) (hi : Option O) : tI P σ ev (.slc e x lo hi) T = gI P (at_ σ) ev σ.length (.slc e x lo hi) (TG T σ) := nr rfl
theorem gi_fld (off : Nat) (x : O) : gI P s ev k0 (.fld off x) K = match ev x with
    | .ptr k o => KR K (.ptr k (o + off))
    | .rptr l o => KR K (.rptr l (o + off))
    | _ => False := nr rfl
theorem ti_fld (off : Nat) (x : O) : tI P σ ev (.fld off x) T = gI P (at_ σ) ev σ.length (.fld off x) (TG T σ) := nr rfl
theorem gi_idx (e : Nat) (x : O) (i : O) : gI P s ev k0 (.idx e x i) K = match ev x, ev i with
    | .own k off n, .d (.int i) => (0 ≤ i ∧ i < n) ∧ KR K (.ptr k (off + i.toNat * e))
    | .d (.sl n l), .d (.int i) => (0 ≤ i ∧ i < n) ∧ KR K (.rptr l (i.toNat * e))
    | .sub k j, .d (.int i) => match s k with
      | some R => match R.cells[j]? with
        | some (.tr (.sl n _)) => (0 ≤ i ∧ i < n) ∧ KR K (.sptr k j (i.toNat * e))
        | _ => False
      | none => False
    | _, _ => False := nr rfl
theorem ti_idx (e : Nat) (x : O) (i : O) : tI P σ ev (.idx e x i) T = gI P (at_ σ) ev σ.length (.idx e x i) (TG T σ) := nr rfl
theorem gi_aix (e n : Nat) (x : O) (i : O) : gI P s ev k0 (.aix e n x i) K = match ev x, ev i with
    | .ptr k o, .d (.int i) => (0 ≤ i ∧ i < n) ∧ KR K (.ptr k (o + i.toNat * e))
    | .rptr l o, .d (.int i) => (0 ≤ i ∧ i < n) ∧ KR K (.rptr l (o + i.toNat * e))
    | _, _ => False := nr rfl
theorem ti_aix (e n : Nat) (x : O) (i : O) : tI P σ ev (.aix e n x i) T = gI P (at_ σ) ev σ.length (.aix e n x i) (TG T σ) := nr rfl
theorem gi_ixa (n : Nat) (x : O) (i : O) : gI P s ev k0 (.ixa n x i) K = match ev x, ev i with
    | .agg l, .d (.int i) => match l[i.toNat]? with
      | some y => (0 ≤ i ∧ i < n) ∧ KR K y
      | none => False
    | _, _ => False := nr rfl
theorem ti_ixa (n : Nat) (x : O) (i : O) : tI P σ ev (.ixa n x i) T = gI P (at_ σ) ev σ.length (.ixa n x i) (TG T σ) := nr rfl
theorem gi_ext (i : Nat) (x : O) : gI P s ev k0 (.ext i x) K = match ev x with
    | .tup l => match l[i]? with
      | some y => KR K y
      | none => False
    | _ => False := nr rfl
theorem ti_ext (i : Nat) (x : O) : tI P σ ev (.ext i x) T = gI P (at_ σ) ev σ.length (.ext i x) (TG T σ) := nr rfl
theorem gi_nck (x : O) : gI P s ev k0 (.nck x) K = match ev x with
    | .ptr k o => KR K (.ptr k o)
    | .rptr l o => KR K (.rptr l o)
    | .sptr k j o => KR K (.sptr k j o)
    | _ => False := nr rfl
theorem ti_nck (x : O) : tI P σ ev (.nck x) T = gI P (at_ σ) ev σ.length (.nck x) (TG T σ) := nr rfl
theorem gi_fdv (off n : Nat) (ag : Bool) (x : O) : gI P s ev k0 (.fdv off n ag x) K = match ev x with
    | .agg l => if ag = true then off + n ≤ l.length ∧ KR K (.agg ((l.drop off).take n)) else match l[off]? with
      | some y => KR K y
      | none => False
    | _ => False := nr rfl
theorem ti_fdv (off n : Nat) (ag : Bool) (x : O) : tI P σ ev (.fdv off n ag x) T = gI P (at_ σ) ev σ.length (.fdv off n ag x) (TG T σ) := nr rfl
theorem gi_eqs (neg : Bool) (n : Nat) (x y : O) : gI P s ev k0 (.eqs neg n x y) K = match ev x, ev y with
    | .agg l, .agg m => match intsA l, intsA m with
      | some a, some b => (a.length = n ∧ b.length = n) ∧ KR K (.d (.bool (neg ^^ decide (a = b))))
      | _, _ => False
    | _, _ => False := nr rfl
theorem ti_eqs (neg : Bool) (n : Nat) (x y : O) : tI P σ ev (.eqs neg n x y) T = gI P (at_ σ) ev σ.length (.eqs neg n x y) (TG T σ) := nr rfl
theorem gi_len (x : O) : gI P s ev k0 (.len x) K = match lenA s (ev x) with
    | some n => KR K (.d (.int n))
    | none => False := nr rfl
theorem ti_len (x : O) : tI P σ ev (.len x) T = gI P (at_ σ) ev σ.length (.len x) (TG T σ) := nr rfl
theorem gi_lens (x : O) : gI P s ev k0 (.lens x) K = match ev x with
    | .d (.str b) => KR K (.d (.int b.size))
    | _ => False := nr rfl
theorem ti_lens (x : O) : tI P σ ev (.lens x) T = gI P (at_ σ) ev σ.length (.lens x) (TG T σ) := nr rfl
theorem gi_mnx (m : Bool) (x : O) (y : O) : gI P s ev k0 (.mnx m x y) K = match ev x, ev y with
    | .d (.int a), .d (.int b) => KR K (.d (.int (if m = true then (if a < b then b else a) else (if b < a then b else a))))
    | _, _ => False := nr rfl
theorem ti_mnx (m : Bool) (x : O) (y : O) : tI P σ ev (.mnx m x y) T = gI P (at_ σ) ev σ.length (.mnx m x y) (TG T σ) := nr rfl
theorem ti_app (e bytes : Nat) (z : List AV) (s' x : O) : tI P σ ev (.app e bytes z s' x) T = match ev s' with
    | .nil => match lenA (at_ σ) (ev x) with
      | some m => match srcA (at_ σ) (m * e) (ev x) with
        | some l => bytes * m ≤ 140737488355328 ∧ T .no (.own σ.length 0 m) (σ ++ [some ⟨e, true, l⟩])
        | none => False
      | none => False
    | .own k off n => match at_ σ k, lenA (at_ σ) (ev x) with
      | some R, some m => match srcA (at_ σ) (m * e) (ev x) with
        | some l => R.g = true ∧ R.e = e ∧ off = 0 ∧ R.cells.length = n * e ∧ bytes * (n + m) ≤ 140737488355328 ∧
            T (.one k) (.own k 0 (n + m)) ((σ.map (Option.map fun R => { R with cells := rnL (fg k) R.cells })).set k (some ⟨e, true, rnL (fg k) R.cells ++ rnL (fg k) l⟩))
        | none => False
      | _, _ => False
    | _ => False := by
  cases h : ev s' <;> simp only [tI, gI, h] <;> rfl
theorem ti_st (n : Nat) (a x : O) : tI P σ ev (.st n a x) T = match ev a with
    | .ptr k off => match at_ σ k with
      | some R => match cellsA (ev x) with
        | some l => l.length = n ∧ l.all okC = true ∧ off + n ≤ R.cells.length ∧ (((R.cells.drop off).take n).all trB) = true ∧ T .no .und (σ.set k (some { R with cells := R.cells.take off ++ l ++ R.cells.drop (off + n) }))
        | none => False
      | none => False
    | _ => False := nr rfl
theorem ti_copy (e : Nat) (d s' : O) : tI P σ ev (.copy e d s') T = match ev d with
    | .own k off n => match at_ σ k, lenA (at_ σ) (ev s') with
      | some R, some m => match srcA (at_ σ) (min m n * e) (ev s') with
        | some l => off + min m n * e ≤ R.cells.length ∧ (((R.cells.drop off).take (min m n * e)).all trB) = true ∧
            T .no (.d (.int (min m n : Nat))) (σ.set k (some { R with cells := R.cells.take off ++ l ++ R.cells.drop (off + min m n * e) }))
        | none => False
      | _, _ => False
    | _ => False := nr rfl
/-- A call that only reads. -/
theorem ti_call {f : FuncId} {args : List O} {ds : List AV} {res : AV} {σ1 : Sto} (hd : Does P f ds [] res σ1) (he : expL (at_ σ) (args.map ev) = some ds)
    (hp : (plainL (args.map ev) || (scal res && scalS σ1)) = true) (hk : T .no (rn (sh σ.length) res) (σ ++ shS σ.length σ1)) : tI P σ ev (.call f args) T := .inl <| .inl ⟨ds, res, σ1, he, hd, hp, hk⟩
theorem gi_call {f : FuncId} {args : List O} {ds : List AV} {res : AV} {σ1 : Sto} (hd : Does P f ds [] res σ1) (he : expL s (args.map ev) = some ds)
    (hp : (plainL (args.map ev) || (scal res && scalS σ1)) = true) (hk : K (rn (sh k0) res) (shS k0 σ1)) : gI P s ev k0 (.call f args) K := .inl ⟨ds, res, σ1, he, hd, hp, hk⟩
/-- A call of a callee that sees the roots in M and writes to none; the result may refer to them. -/
theorem gi_callv (M : List Nat) {f : FuncId} {args : List O} {ds : List AV} {res : AV} {σv : Sto} (hd : Does P f ds σv res σv) (h0 : M.Nodup) (he : rwL s M (args.map ev) = some ds) (h1 : M.map s = σv) (h2 : vwOk σv = true)
    (h3 : (M.all (idsL (args.map ev)).contains) = true) (h4 : scal res = true) (hk : K (rn (fun i => M[i]?) res) []) : gI P s ev k0 (.call f args) K := .inr ⟨M, σv, ds, res, h0, he, h1, h2, h3, hd, h4, hk⟩
theorem ti_callv (M : List Nat) {f : FuncId} {args : List O} {ds : List AV} {res : AV} {σv : Sto} (hd : Does P f ds σv res σv) (h0 : M.Nodup) (he : rwL (at_ σ) M (args.map ev) = some ds) (h1 : M.map (at_ σ) = σv) (h2 : vwOk σv = true)
    (h3 : (M.all (idsL (args.map ev)).contains) = true) (h4 : scal res = true) (hk : T .no (rn (fun i => M[i]?) res) (σ ++ [])) : tI P σ ev (.call f args) T := .inl <| .inr ⟨M, σv, ds, res, h0, he, h1, h2, h3, hd, h4, hk⟩
/-- A call that writes to the roots in M. -/
theorem ti_callw (M : List Nat) (fz : Bool) {f : FuncId} {args : List O} {ds : List AV} {res : AV} {σ1 : Sto} (hd : Does P f ds (rwS σ M) res σ1) (h0 : M.Nodup) (he : rwL (at_ σ) M (args.map ev) = some ds) (h1 : rwIn σ M = true)
    (h2 : rwOut σ σ1 M 0 = true) (h3 : rwNew (σ1.drop M.length) = true) (h4 : scal res = true)
    (hk : T .no (rn (rwN M fz σ.length) res) (rwPut σ1 fz M 0 σ ++ σ1.drop M.length)) : tI P σ ev (.call f args) T := .inr (.inl ⟨M, fz, ds, res, σ1, h0, he, h1, hd, h2, h3, h4, hk⟩)
/-- A call that is given the roots in M with all that they refer to; gv: the one that is given away. -/
theorem ti_callcg (M : List Nat) (gv : List Nat) (fz : Bool) {f : FuncId} {args : List O} {ds : List AV} {res : AV} {σ1 : Sto} (h0 : M.Nodup) (he : rnL (fun i => posOf i M) (args.map ev) = ds) (σ0 : Sto) (hi : cgIn σ M gv = σ0) (hd : Does P f ds σ0 res σ1)
    (h1 : cgOk σ σ1 gv M 0 = true) (hk : T (.call gv M) (rn (cgNu M gv fz σ.length) res) (cgGo σ1 M gv fz σ.length 0 σ ++ cgNew σ1 M gv fz σ.length)) : tI P σ ev (.call f args) T :=
  .inr (.inr ⟨M, gv, fz, ds, res, σ1, h0, he, hi ▸ hd, h1, hk⟩)

end
end Go.Lift

/-
  LIFT, part 27: from a contract on data to the model's calls and back; lists of ints as cells. No condition.
-/
namespace Go.Lift
open Go.RowKit

/-! ### Contracts and calls -/
/-- A call that only reads, and returns a scalar. -/
theorem Does.of_calls {P : Program} {f : FuncId} {args : List AV} {res : AV} {v : Value} (hv : ∀ w γ φ s, Rel w γ φ s res v)
    (h : ∀ w γ φ vals, RelL w γ φ (at_ []) args vals → Calls P f vals.toArray w fun e w' => e = .returned v ∧ Below w.heap.size w w') : Does P f args [] res [] := by
  intro γ φ w vals hS hr
  refine (h w γ φ vals hr).mono fun e w' hq => ?_
  obtain ⟨rfl, hb⟩ := hq
  refine ⟨v, γ, φ, rfl, ⟨hb.os, hb.tape, hb.output, hb.size, fun b hb' _ => ⟨hb.block b hb', rfl⟩, fun b cur T f e => ⟨cur, ?_, rfl⟩⟩, fun k R e => ?_, ⟨fun b k p e => Nat.lt_of_lt_of_le (hS.bound b k p e) hb.size, fun k R e => ?_⟩, hv _ _ _ _⟩
  · exact (hb.block b (Array.getElem?_eq_some_iff.1 e).1).trans e
  · simp [at_] at e
  · simp [at_] at e
/-- A law: what its contract says as a call. -/
theorem Does.calls {P : Program} {f : FuncId} {args : List AV} {x : Bool} (h : Does P f args [] (.d (.bool x)) []) (w : World) (vals : List Value)
    (hr : RelL w (fun b => if b < w.heap.size then .im else .off) id (at_ []) args vals) : Calls P f vals.toArray w fun e w' => e = .returned (.bool x) ∧ Below w.heap.size w w' := by
  refine (h _ id w vals ⟨fun b k p e => ?_, fun k R e => by simp [at_] at e⟩ hr).mono fun e w' hq => ?_
  · split at e <;> cases e
  · obtain ⟨v, γ', φ', rfl, hK, _, _, hv⟩ := hq
    simp only [Rel, Rd] at hv
    subst hv
    exact ⟨rfl, hK.os, hK.tape, hK.output, hK.size, fun b hb => (hK.blk b hb (fun k p => by rw [if_pos hb]; simp)).1⟩

/-- A nil slice, taken as a root of no cells. -/
theorem Does.nil_own {P : Program} {f : FuncId} {args : List AV} (e : Nat) (g : Bool) (h : Does P f args [] .nil []) : Does P f args [] (.own 0 0 0) [some ⟨e, g, []⟩] := by
  intro γ φ w vals hS hr
  refine (h γ φ w vals hS hr).mono fun en w' hq => ?_
  obtain ⟨v, γ', φ', rfl, hK, h1, h2, h3⟩ := hq
  simp only [Rel] at h3
  subst h3
  refine ⟨_, γ', φ', rfl, hK, h1, ⟨h2.bound, fun k R e => ?_⟩, ?_⟩
  · cases k with
    | zero => simp [at_] at e; subst e; exact .inl rfl
    | succ k => simp [at_] at e
  · simp only [Rel]
    exact ⟨_, rfl, .inl ⟨trivial, trivial, trivial⟩⟩
/-- What stands behind a round, where it is not so by definition. -/
theorem Wk.kept' {m0 : Nat} (live : List Nat) (n : Nat) {e e' : List AV} {σ σ' : Sto} (hn : m0 ≤ n) (h1 : keepE live n e = e') (h2 : keepS n σ = σ') : Wk m0 e σ e' σ' := by
  subst h1 h2
  exact .keep live n e σ hn
theorem call_ro {P : Program} {s : St} {ev : O → AV} {k0 : Nat} {f : FuncId} {args : List O} {K : AV → Sto → Prop} {ds : List AV} {res : AV} {σ1 : Sto} (hd : Does P f ds [] res σ1) (he : expL s (args.map ev) = some ds)
    (hp : (plainL (args.map ev) || (scal res && scalS σ1)) = true) (hk : K (rn (sh k0) res) (shS k0 σ1)) : gI P s ev k0 (.call f args) K := .inl ⟨ds, res, σ1, he, hd, hp, hk⟩

/-! ### Ints -/
def iv (xs : List Int) : List AV := xs.map fun x => .d (.int x)
def dv (xs : List Int) : List D := xs.map .int
def ints (xs : List Int) : D := .sl xs.length (dv xs)
section
variable {xs ys : List Int}
theorem iv_len : (iv xs).length = xs.length := by simp [iv]
theorem dv_len : (dv xs).length = xs.length := by simp [dv]
theorem iv_get (i : Nat) : (iv xs)[i]? = xs[i]?.map fun x => .d (.int x) := by simp [iv]
theorem dv_get (i : Nat) : (dv xs)[i]? = xs[i]?.map .int := by simp [dv]
theorem iv_take (n : Nat) : (iv xs).take n = iv (xs.take n) := by simp [iv, List.map_take]
theorem iv_drop (n : Nat) : (iv xs).drop n = iv (xs.drop n) := by simp [iv, List.map_drop]
theorem dv_take (n : Nat) : (dv xs).take n = dv (xs.take n) := by simp [dv, List.map_take]
theorem dv_drop (n : Nat) : (dv xs).drop n = dv (xs.drop n) := by simp [dv, List.map_drop]
theorem iv_app : iv xs ++ iv ys = iv (xs ++ ys) := by simp [iv]
theorem iv_one (x : Int) : [AV.d (.int x)] = iv [x] := rfl
theorem iv_set {n : Nat} {x : Int} (h : n < xs.length) : (iv xs).take n ++ [AV.d (.int x)] ++ (iv xs).drop (n + 1) = iv (xs.set n x) := by
  rw [iv_take, iv_drop, iv_one, iv_app, iv_app]
  congr 1
  rw [List.set_eq_take_append_cons_drop, if_pos h]
  simp
theorem dv_map : (dv xs).map .d = iv xs := by simp [iv, dv]
theorem rnL_iv (f : Nat → Option Nat) : rnL f (iv xs) = iv xs := by
  induction xs with
  | nil => rfl
  | cons x l ih => simp only [iv, List.map_cons, rnL, rn] at ih ⊢; rw [ih]
theorem cellsD_iv : cellsD (iv xs) = some (dv xs) := by
  induction xs with
  | nil => rfl
  | cons x l ih => simp only [iv, dv, List.map_cons, cellsD, cellD] at ih ⊢; rw [ih]
theorem cellsI_iv : cellsI (iv xs) = some (iv xs) := by
  induction xs with
  | nil => rfl
  | cons x l ih => simp only [iv, List.map_cons, cellsI] at ih ⊢; rw [ih]; rfl
theorem trB_iv : (iv xs).all trB = true := by
  induction xs with
  | nil => rfl
  | cons x l ih => simp only [iv, List.map_cons, List.all_cons] at ih ⊢; rw [ih]; rfl
theorem okC_iv : (iv xs).all okC = true := by
  induction xs with
  | nil => rfl
  | cons x l ih => simp only [iv, List.map_cons, List.all_cons] at ih ⊢; rw [ih]; rfl
theorem flatB_iv : (iv xs).all flatB = true := by
  induction xs with
  | nil => rfl
  | cons x l ih => simp only [iv, List.map_cons, List.all_cons] at ih ⊢; rw [ih]; rfl
theorem flatS_iv : (iv xs).all flatS = true := by
  induction xs with
  | nil => rfl
  | cons x l ih => simp only [iv, List.map_cons, List.all_cons] at ih ⊢; rw [ih]; rfl
theorem scalL_iv : scalL (iv xs) = true := by
  induction xs with
  | nil => rfl
  | cons x l ih => simp only [iv, List.map_cons, scalL] at ih ⊢; rw [ih]; rfl
theorem zeros_iv (n : Nat) : zeros n [.d (.int 0)] = iv (List.replicate n 0) := by
  unfold zeros iv
  induction n with
  | zero => rfl
  | succ n ih => rw [List.replicate_succ, List.flatten_cons, ih, List.replicate_succ]; rfl
theorem zeros_iv' (n : Nat) (x : Int) : zeros n [.d (.int x)] = iv (List.replicate n x) := by
  unfold zeros iv
  induction n with
  | zero => rfl
  | succ n ih => rw [List.replicate_succ, List.flatten_cons, ih, List.replicate_succ]; rfl
theorem iv_mid (x : Int) : iv xs ++ [.d (.int x)] ++ iv ys = iv (xs ++ [x] ++ ys) := by simp [iv]
theorem iv_snoc (x : Int) : iv xs ++ [.d (.int x)] = iv (xs ++ [x]) := by simp [iv]
end
attribute [go_sem] gg_tt gg_ff gg_tf gg_ft gg_und gt_tt gt_ff gt_tf gt_ft gt_und wpN_cd cd_t cd_f pk_t pk_f wpN_gh wpN_seq wpN_reg wpN_drw wpN_blk wpN_exit wpN_ret wpN_skip rn rnL sh shS rnL_iv ints cvL cv List.length_map eq_self bne_self_eq_false decide_true
attribute [go_sem] decide_false List.map_nil List.map_cons fg List.replicate_zero rwPut rwN List.set_cons_succ List.set_cons_zero List.take_succ_cons List.take_zero List.take_nil
attribute [go_sem] List.drop_succ_cons List.drop_zero List.drop_nil List.all_cons List.all_nil okC trB okC_iv trB_iv Bool.and_true Bool.and_self Nat.le_refl kr_kg kr_tg kg kt_tg kt
attribute [go_sem] dk xb rg_nil rt_nil rg_cons rt_cons rg_guard rt_guard gi_mv ti_mv gi_pick ti_pick gi_box ti_box gi_zer ti_zer gi_agg ti_agg gi_mksl ti_mksl gi_ld ti_ld gi_ldn
attribute [go_sem] gi_nck ti_nck gi_fdv ti_fdv gi_eqs ti_eqs intsA Bool.true_xor Bool.false_xor gi_aix ti_aix gi_ixa ti_ixa ti_ldn gi_bin ti_bin gi_binb ti_binb gi_not ti_not gi_neg ti_neg gi_make ti_make gi_slc ti_slc gi_fld ti_fld gi_idx ti_idx gi_ext ti_ext gi_len ti_len gi_lens
attribute [go_sem] ti_lens gi_mnx ti_mnx ti_app ti_st ti_copy Go.Lift.binA Go.Lift.put Go.Lift.forget O.ev cellsA lenA srcA cellsI optB fillA at_ List.getD_cons_succ
attribute [go_sem] List.getD_cons_zero List.append_nil List.nil_append List.cons_append List.getElem?_cons_succ List.getElem?_cons_zero Option.join_some List.length_cons
attribute [go_sem] List.length_nil if_true if_false Bool.not_true Bool.not_false Bool.false_eq_true Bool.true_eq_false Int.toNat_natCast Int.toNat_zero Nat.mul_one Nat.zero_add
attribute [go_sem] Nat.add_zero List.getElem?_map Option.map_some decide_eq_true_eq true_and and_true Int.natCast_nonneg wrapE iv_len iv_get dv_len dv_get iv_take iv_drop dv_take
attribute [go_sem] dv_drop iv_app iv_mid iv_snoc dv_map cellsI_iv cellsD_iv zeros_iv' List.map_append idsN idsA idsL List.filter_cons List.filter_nil nrmR posOf Nat.lt_irrefl
attribute [go_sem] Nat.not_lt_zero Nat.zero_le keepS expL expA exp1 expC cellE cellsE List.isEmpty_cons List.take_length plainL plain scal scalL scalS scalL_iv Bool.true_and Bool.or_true Bool.true_or
attribute [go_sem] false_implies true_implies Bool.false_or Bool.or_self rwL rwA rw1 rwC rwIn rwOut rwNew flatB_iv flatS_iv BEq.rfl beq_self_eq_true and_self
end Go.Lift

/-
  LIFT: regions whose order is drawn up to an append. No condition.
-/
namespace Go.Lift
open Go.RowKit

/-- An append to what is not nil by the text. -/
def isApp (i : Ins) : Bool := match i.op with
  | .app _ _ _ (.c _) _ => false
  | .app .. => true
  | _ => false
/-- As cRegion, but the head ends before the first append. -/
def cRegionK (P : Program) (ops : List Oper) (draw : Bool) : Option C :=
  match cInss P ops ops with
  | none => none
  | some l =>
    if draw && (l.take (tailAt (masks [] ops) ops.length)).any isApp then
      let ms := masks [] ops
      let m2 := ((l.findIdx? fun i => !pureH i || isApp i).getD 0)
      let F := fset ops ms m2
      if preOk ops ms m2 && decide (m2 ≤ ops.length) && floatsOk ops ms F && (List.range (ops.length - m2)).all (fun d => fullF ms F (m2 + d)) && Region.seqB .any ops.toArray (ops.length - m2) m2 (canon ops.length m2) && Region.noSelect ops.toArray then
        some (.draw (l.take m2) (l.drop m2)) else none
    else cRegion P ops draw

def cCodeK (P : Program) : Code → Option C
  | .skip => some .skip
  | .region _ ops draw => cRegionK P ops.toList draw
  | .seq a b => match cCodeK P a, cCodeK P b with
    | some a, some b => some (.seq a b)
    | _, _ => none
  | .cond c a b => match cO c, cCodeK P a, cCodeK P b with
    | some c, some a, some b => some (.cond c a b)
    | _, _, _ => none
  | .block id b => (cCodeK P b).map (.block id)
  | .loop b => (cCodeK P b).map .loop
  | .exit id => some (.exit id)
  | .ret => some .ret
  | _ => none

def cFunK (P : Program) (fn : Func) : Option Fun :=
  match fn.body with
  | some c => match cCodeK P c, cRVs P fn.results.toList with
    | some b, some r => if fn.nfree = 0 then some ⟨fn.params.size, fn.ntmps, b, r⟩ else none
    | _, _ => none
  | none => none

section
variable {P : Program} {γe : Labels} {φ0 : Nat → Nat} {we : World} {σ0 : Sto}
theorem region_soundK {id : Nat} {ops : Array Oper} {draw : Bool} {c : C} (hm : P.follows .mixedOrders = true) (hc : cRegionK P ops.toList draw = some c) {K : Ex → List AV → Sto → Prop} {env : List AV} {σ : Sto} {a : Act} {w : World} {Q : Exit → Act → World → Prop}
    {m0 : Nat} (h : wpC P m0 c K env σ) (hS : SR γe φ0 we σ0 env σ a w) (hQ : ∀ env σ a w, K .normal env σ → SR γe φ0 we σ0 env σ a w → Q .normal a w) (hP : ∀ c a dst v w, Q (.panic c) (Act.put a dst v) w → Q (.panic c) a w) : (Code.region id ops draw).wp P Q a w := by
  unfold cRegionK at hc
  split at hc
  · cases hc
  · rename_i l hl
    split at hc
    · rename_i hd
      simp only [Bool.and_eq_true] at hd
      obtain ⟨rfl, _⟩ := hd
      simp only at hc
      split at hc
      · rename_i hcond
        simp only [Option.some.injEq] at hc
        subst hc
        simp only [wpC] at h
        simp only [Bool.and_eq_true, decide_eq_true_eq] at hcond
        obtain ⟨⟨⟨⟨⟨hpre, hmle⟩, hfo⟩, hful⟩, hseq⟩, hsel⟩ := hcond
        simp only [List.all_eq_true, List.mem_range] at hful
        exact region_h hm hl hmle hpre hfo hful hseq hsel h hS hQ hP
      · cases hc
    · exact region_sound hm hc h hS hQ hP
theorem cRegion_invK {ops : List Oper} {draw : Bool} {c : C} (h : cRegionK P ops draw = some c) : (∃ l, c = .reg l) ∨ ∃ p t, c = .draw p t := by
  unfold cRegionK at h
  split at h
  · cases h
  · split at h
    · simp only at h
      split at h
      · simp only [Option.some.injEq] at h
        exact .inr ⟨_, _, h.symm⟩
      · cases h
    · exact cRegion_inv h
theorem cCode_invK {cd : Code} {c : C} (h : cCodeK P cd = some c) : match c with
    | .skip => cd = .skip
    | .reg _ => ∃ id ops draw, cd = .region id ops draw
    | .draw _ _ => ∃ id ops draw, cd = .region id ops draw
    | .seq a b => ∃ x y, cd = .seq x y ∧ cCodeK P x = some a ∧ cCodeK P y = some b
    | .cond c a b => ∃ o x y, cd = .cond o x y ∧ cO o = some c ∧ cCodeK P x = some a ∧ cCodeK P y = some b
    | .block id b => ∃ x, cd = .block id x ∧ cCodeK P x = some b
    | .loop b => ∃ x, cd = .loop x ∧ cCodeK P x = some b
    | .exit id => cd = .exit id
    | .ret => cd = .ret
    | .gh _ => False := by
  cases cd with
  | skip => simp only [cCodeK, Option.some.injEq] at h; subst h; trivial
  | region id ops draw =>
    simp only [cCodeK] at h
    rcases cRegion_invK h with ⟨l, rfl⟩ | ⟨p, t, rfl⟩ <;> exact ⟨_, _, _, rfl⟩
  | seq x y =>
    simp only [cCodeK] at h
    split at h
    · rename_i c1 c2 h1 h2
      simp only [Option.some.injEq] at h
      subst h
      exact ⟨x, y, rfl, h1, h2⟩
    · cases h
  | cond o x y =>
    simp only [cCodeK] at h
    split at h
    · rename_i o' c1 c2 ho h1 h2
      simp only [Option.some.injEq] at h
      subst h
      exact ⟨o, x, y, rfl, ho, h1, h2⟩
    · cases h
  | block id b =>
    simp only [cCodeK, Option.map_eq_some_iff] at h
    obtain ⟨c1, h1, rfl⟩ := h
    exact ⟨b, rfl, h1⟩
  | loop b =>
    simp only [cCodeK, Option.map_eq_some_iff] at h
    obtain ⟨c1, h1, rfl⟩ := h
    exact ⟨b, rfl, h1⟩
  | exit id => simp only [cCodeK, Option.some.injEq] at h; subst h; trivial
  | ret => simp only [cCodeK, Option.some.injEq] at h; subst h; trivial
  | _ => simp [cCodeK] at h

theorem wpC_soundK (hm : P.follows .mixedOrders = true) : ∀ (c : C) (cd : Code), cCodeK P cd = some c.erase → ∀ {K : Ex → List AV → Sto → Prop} {env : List AV} {σ : Sto} {a : Act} {w : World} {Q : Exit → Act → World → Prop}, wpC P σ0.length c K env σ → SR γe φ0 we σ0 env σ a w →
    (∀ x env σ a w, K x env σ → SR γe φ0 we σ0 env σ a w → Q x.to a w) → (∀ c a dst v w, Q (.panic c) (Act.put a dst v) w → Q (.panic c) a w) → cd.wp P Q a w := by
  intro c
  induction c with
  | skip =>
    intro cd hc K env σ a w Q h hS hQ hP
    have hi : cd = .skip := cCode_invK hc
    subst hi
    exact wp_skip (hQ .normal _ _ _ _ h hS)
  | reg l =>
    intro cd hc K env σ a w Q h hS hQ hP
    obtain ⟨id, ops, draw, rfl⟩ := cCode_invK hc
    simp only [cCodeK] at hc
    exact region_soundK hm hc h hS (fun env σ a w hk hs => hQ .normal env σ a w hk hs) hP
  | draw p t =>
    intro cd hc K env σ a w Q h hS hQ hP
    obtain ⟨id, ops, draw, rfl⟩ := cCode_invK hc
    simp only [cCodeK] at hc
    exact region_soundK hm hc h hS (fun env σ a w hk hs => hQ .normal env σ a w hk hs) hP
  | seq x y ihx ihy =>
    intro cd hc K env σ a w Q h hS hQ hP
    obtain ⟨c1, c2, rfl, h1, h2⟩ := cCode_invK hc
    simp only [wpC] at h
    refine wp_seq (ihx c1 h1 h hS (fun x env σ a w hk hs => ?_) hP)
    cases x with
    | normal => exact ihy c2 h2 hk hs hQ hP
    | exit id => exact hQ (.exit id) _ _ _ _ hk hs
    | ret => exact hQ .ret _ _ _ _ hk hs
  | cond o x y ihx ihy =>
    intro cd hc K env σ a w Q h hS hQ hP
    obtain ⟨o', c1, c2, rfl, ho, h1, h2⟩ := cCode_invK hc
    simp only [wpC] at h
    split at h
    · rename_i t ht
      have hS0 := hS
      obtain ⟨γ, φ, hK, hSim, hE, hd, hfix⟩ := hS0
      have hr := ev_rel hE ho
      rw [ht] at hr
      have hv := rel_bool hr
      refine wp_cond hv ?_
      cases t with
      | true => simp only [if_true] at h ⊢; exact ihx c1 h1 h hS hQ hP
      | false => simp only [Bool.false_eq_true, if_false] at h ⊢; exact ihy c2 h2 h hS hQ hP
    · exact h.elim
  | block id b ih =>
    intro cd hc K env σ a w Q h hS hQ hP
    obtain ⟨c1, rfl, h1⟩ := cCode_invK hc
    simp only [wpC] at h
    refine wp_block (ih c1 h1 h hS (fun x env σ a w hk hs => ?_) hP)
    cases x with
    | normal => exact hQ .normal _ _ _ _ hk hs
    | exit i =>
      simp only [Ex.to, Exit.inBlock]
      simp only at hk
      split
      · rename_i e
        rw [if_pos e] at hk
        exact hQ .normal _ _ _ _ hk hs
      · rename_i e
        rw [if_neg e] at hk
        exact hQ (.exit i) _ _ _ _ hk hs
    | ret => exact hQ .ret _ _ _ _ hk hs
  | loop b ih =>
    intro cd hc K env σ a w Q h hS hQ hP
    obtain ⟨c1, rfl, h1⟩ := cCode_invK hc
    simp only [wpC] at h
    obtain ⟨J, ⟨m, e', σ', hw, hJ⟩, hround⟩ := h
    have key : ∀ a w, ∃ μ : Nat, (∃ n e σ, J n e σ ∧ SR γe φ0 we σ0 e σ a w) → (∃ e σ, J μ e σ ∧ SR γe φ0 we σ0 e σ a w) ∧ ∀ k, (∃ e σ, J k e σ ∧ SR γe φ0 we σ0 e σ a w) → μ ≤ k := by
      intro a w
      by_cases hx : ∃ n e σ, J n e σ ∧ SR γe φ0 we σ0 e σ a w
      · obtain ⟨μ, h1, h2⟩ := min_exists (p := fun n => ∃ e σ, J n e σ ∧ SR γe φ0 we σ0 e σ a w) hx
        exact ⟨μ, fun _ => ⟨h1, h2⟩⟩
      · exact ⟨0, fun h => absurd h hx⟩
    refine wp_loop (fun a w => ∃ n e σ, J n e σ ∧ SR γe φ0 we σ0 e σ a w) (fun a w => Classical.choose (key a w)) ⟨m, e', σ', hJ, wk_sound hw hS⟩ fun a w hI => ?_
    obtain ⟨⟨e, σ, hJ, hs⟩, hmin⟩ := Classical.choose_spec (key a w) hI
    refine ih c1 h1 (hround _ e σ hJ) hs (fun x env σ a' w' hk hs' => ?_) hP
    cases x with
    | normal =>
      obtain ⟨m', e2, σ2, hlt, hw2, hJ2⟩ := hk
      have hI' : ∃ n e σ, J n e σ ∧ SR γe φ0 we σ0 e σ a' w' := ⟨m', e2, σ2, hJ2, wk_sound hw2 hs'⟩
      refine ⟨hI', ?_⟩
      have := (Classical.choose_spec (key a' w') hI').2 m' ⟨e2, σ2, hJ2, wk_sound hw2 hs'⟩
      exact Nat.lt_of_le_of_lt this hlt
    | exit id => exact hQ (.exit id) _ _ _ _ hk hs'
    | ret => exact hQ .ret _ _ _ _ hk hs'
  | exit id =>
    intro cd hc K env σ a w Q h hS hQ hP
    have hi : cd = .exit id := cCode_invK hc
    subst hi
    exact wp_exit (hQ (.exit id) _ _ _ _ h hS)
  | ret =>
    intro cd hc K env σ a w Q h hS hQ hP
    have hi : cd = .ret := cCode_invK hc
    subst hi
    exact wp_ret (hQ .ret _ _ _ _ h hS)
  | gh x ih =>
    intro cd hc K env σ a w Q h hS hQ hP
    simp only [wpC] at h
    refine ih cd hc h hS (fun x env σ a w hk hs => ?_) hP
    cases x with
    | normal =>
      obtain ⟨e', σ', hw, hk⟩ := hk
      exact hQ .normal _ _ _ _ hk (wk_sound hw hs)
    | exit id => exact hQ (.exit id) _ _ _ _ hk hs
    | ret => exact hQ .ret _ _ _ _ hk hs
end
theorem spec_ofK {P : Program} {f : FuncId} {fn : Func} {F : Fun} {args : List AV} {σ0 : Sto} {res : AV} {σ1 : Sto} (hm : P.follows .mixedOrders = true) (hf : P.funcs[f]? = some fn) (hF : cFunK P fn = some F.erase) (h : FnOk P F args σ0 res σ1) : Does P f args σ0 res σ1 := by
  intro γ φ w vals hS hargs
  unfold cFunK at hF
  split at hF
  · rename_i cd hb
    split at hF
    · rename_i b rs hcc hrs
      split at hF
      · obtain ⟨np, nt, bd, rs'⟩ := F
        simp only [Fun.erase, Option.some.injEq, Fun.mk.injEq] at hF
        obtain ⟨rfl, rfl, rfl, rfl⟩ := hF
        obtain ⟨hlen, hwp⟩ := h
        simp only at hlen hwp
        have hal := hargs.len
        refine calls_of_wp hf hb (wpC_soundK (γe := γ) (φ0 := φ) (we := w) (σ0 := σ0) hm bd cd hcc hwp ⟨γ, φ, Kst.refl _ _, hS, ?_, rfl, fun k R hk hg => ⟨Stay.refl, R, hk, hg⟩⟩ (fun x env σ a w' hpost hSR => ?_) (fun c a dst v w h => bodyPost_put h))
        · have he : (vals.toArray ++ Array.replicate (fn.ntmps - vals.toArray.size) undef).toList = vals ++ List.replicate (fn.ntmps - args.length) undef := by simp [hal]
          show RelL w γ φ (at_ σ0) _ (vals.toArray ++ Array.replicate (fn.ntmps - vals.toArray.size) undef).toList
          rw [he]
          refine hargs.append ?_
          generalize fn.ntmps - args.length = n
          induction n with
          | zero => simp [RelL]
          | succ n ih => simp only [List.replicate_succ, RelL]; exact ⟨_, _, rfl, by simp [Rel], ih⟩
        · obtain ⟨hx, env', σ', hwk, hge, r, ids, hr, hnd, hids, hnrm⟩ := hpost
          replace hSR := wk_sound hwk hSR
          clear hwk
          revert env' σ'
          intro env σ hge hr hnrm hSR
          obtain ⟨γ1, φ1, hK1, hS1, hE1, hd1, hfix1⟩ := hSR
          obtain ⟨v, hv, hrel⟩ := results_rel (fn := fn) hS1 hE1 hrs hr
          -- the names of what is kept
          unfold nrm at hnrm
          simp only [Prod.mk.injEq] at hnrm
          obtain ⟨hres, hσ1⟩ := hnrm
          let φ2 : Nat → Nat := fun k' => if k' < σ0.length then φ1 k' else φ1 (ids.getD (k' - σ0.length) 0)
          have hat1 : ∀ k', at_ σ1 k' = (if k' < σ0.length then at_ σ k' else ((ids[k' - σ0.length]?).bind (at_ σ))).map (fun R => { R with cells := rnL (nrmR σ0.length ids) R.cells }) := by
            intro k'
            have htl : (σ.take σ0.length).length = σ0.length := by simp; omega
            rw [← hσ1]
            simp only [at_, List.getElem?_map, List.getElem?_append, htl]
            by_cases hk : k' < σ0.length
            · rw [if_pos hk, if_pos hk, List.getElem?_take, if_pos hk]
              cases σ[k']? with
              | none => rfl
              | some x => cases x <;> rfl
            · rw [if_neg hk, if_neg hk]
              cases hi : ids[k' - σ0.length]? with
              | none => simp
              | some i =>
                simp only [hi, Option.map_some, Option.bind_some, at_]
                cases σ[i]? with
                | none => rfl
                | some x => cases x <;> rfl
          have hRen : Ren (nrmR σ0.length ids) φ1 (at_ σ) φ2 (at_ σ1) := by
            refine ⟨fun k k' R hk hR => ?_, fun k' R' hR' => ?_, fun k1 k2 k' h1 h2 => ?_⟩
            · unfold nrmR at hk
              split at hk
              · rename_i hlt
                simp only [Option.some.injEq] at hk
                subst hk
                exact ⟨by simp [φ2, hlt], by rw [hat1, if_pos hlt, hR]; rfl⟩
              · simp only [Option.map_eq_some_iff] at hk
                obtain ⟨j, hj, rfl⟩ := hk
                have hg := posOf_get hj
                have hnl : ¬ j + σ0.length < σ0.length := by omega
                refine ⟨by simp [φ2, hnl, hg], ?_⟩
                rw [hat1, if_neg hnl, show j + σ0.length - σ0.length = j by omega, hg]
                simp [hR]
            · rw [hat1] at hR'
              simp only [Option.map_eq_some_iff] at hR'
              obtain ⟨R, hR, _⟩ := hR'
              split at hR
              · rename_i hlt
                exact ⟨k', R, by simp [nrmR, hlt], hR⟩
              · rename_i hlt
                simp only [Option.bind_eq_some_iff] at hR
                obtain ⟨i, hi, hR⟩ := hR
                have hil : ¬ i < σ0.length := by have := hids i (List.mem_of_getElem? hi); omega
                refine ⟨i, R, ?_, hR⟩
                unfold nrmR
                rw [if_neg hil, posOf_of hnd hi]
                simp
                omega
            · unfold nrmR at h1 h2
              split at h1 <;> split at h2
              · simp only [Option.some.injEq] at h1 h2; omega
              · simp only [Option.some.injEq, Option.map_eq_some_iff] at h1 h2
                obtain ⟨j, _, h2⟩ := h2
                omega
              · simp only [Option.some.injEq, Option.map_eq_some_iff] at h1 h2
                obtain ⟨j, _, h1⟩ := h1
                omega
              · simp only [Option.map_eq_some_iff] at h1 h2
                obtain ⟨j1, h3, h4⟩ := h1
                obtain ⟨j2, h5, h6⟩ := h2
                have : j1 = j2 := by omega
                subst this
                have e1 := posOf_get h3
                have e2 := posOf_get h5
                rw [e1] at e2
                simpa using e2
          obtain ⟨hK2, hS2⟩ := hS1.rn hRen
          have hrel2 := Rel.rn hRen r v hrel
          rw [hres] at hrel2
          have hgoal : ∃ v', Ending.returned v = .returned v' ∧ ∃ γ' φ', Kst γ w γ' w' ∧ (∀ k R, at_ σ0 k = some R → R.g = false → Stay γ φ γ' φ' k) ∧ Sim γ' φ' (at_ σ1) w' ∧ Rel w' γ' φ' (at_ σ1) res v' := by
            refine ⟨v, rfl, _, φ2, hK1.trans hK2, fun k R hk hg => ?_, hS2, hrel2⟩
            have hlt : k < σ0.length := by
              by_cases h : k < σ0.length
              · exact h
              · simp [at_, List.getElem?_eq_none (Nat.le_of_not_lt h)] at hk
            have h1 := (hfix1 k R hk hg).1
            refine ⟨by simp only [φ2, if_pos hlt]; exact h1.1, fun hl => ?_⟩
            have h2 := h1.2 hl
            simp [h2, Lab.rn, nrmR, hlt]
          obtain ⟨v', e, γ', φ', g1, g2, g3, g4⟩ := hgoal
          cases x with
          | normal => exact ⟨hd1, v, hv, v', γ', φ', e, g1, g2, g3, g4⟩
          | ret => exact ⟨hd1, v, hv, v', γ', φ', e, g1, g2, g3, g4⟩
          | exit id => exact hx.elim
      · cases hF
    · cases hF
  · cases hF
#print axioms spec_ofK
end Go.Lift

/-
  The compiled code of functions of the seat (written by mkcode.py). No condition.
-/
namespace Go.Proofs.Ytjncdanegoileaa
open Go.Lift

def C_laws_FnExactOrderCost : Fun := ⟨2, 45,
 .seq (
 .reg [⟨some 2, none, .box (.t 0)⟩,
 ⟨some 4, none, .mv (.c (.d (.bool false)))⟩]) (
 .seq (
 .reg [⟨some 5, none, .mv (.c (.d (.int 1048576)))⟩]) (
 .seq (
 .reg [⟨some 10, none, .ldn 5 (.t 2)⟩,
 ⟨some 11, none, .mv (.t 5)⟩,
 ⟨some 12, none, .call 18 [(.t 10), (.t 11)]⟩,
 ⟨some 5, none, .mv (.t 12)⟩]) (
 .seq (
 .seq (
 .reg [⟨some 13, none, .mv (.t 5)⟩,
 ⟨some 14, none, .bin .lss (.t 13) (.c (.d (.int 0)))⟩]) (
 .cond (.t 14) (
 .seq (
 .reg [⟨some 4, none, .mv (.c (.d (.bool true)))⟩]) (
 .ret)) (
 .skip))) (
 .seq (
 .reg [⟨some 15, none, .mv (.t 1)⟩,
 ⟨some 16, none, .mv (.t 5)⟩,
 ⟨some 17, none, .call 30 [(.t 15), (.t 16)]⟩,
 ⟨some 5, none, .mv (.t 17)⟩]) (
 .seq (
 .seq (
 .reg [⟨some 18, none, .mv (.t 5)⟩,
 ⟨some 19, none, .bin .lss (.t 18) (.c (.d (.int 0)))⟩]) (
 .cond (.t 19) (
 .seq (
 .reg [⟨some 4, none, .mv (.c (.d (.bool true)))⟩]) (
 .ret)) (
 .skip))) (
 .seq (
 .reg [⟨some 20, none, .ldn 5 (.t 2)⟩,
 ⟨some 21, none, .call 20 [(.t 20)]⟩,
 ⟨some 22, none, .mv (.t 1)⟩,
 ⟨some 23, none, .call 32 [(.t 22)]⟩,
 ⟨some 24, none, .call 34 [(.t 21), (.t 23)]⟩,
 ⟨some 6, none, .mv (.t 24)⟩]) (
 .seq (
 .reg [⟨some 25, none, .ldn 5 (.t 2)⟩,
 ⟨some 26, none, .call 20 [(.t 25)]⟩,
 ⟨some 7, none, .zer [.d (.int 0), .d (.int 0), .d (.int 0), .nil, .nil]⟩,
 ⟨none, none, .st 5 (.t 7) (.t 26)⟩]) (
 .seq (
 .reg [⟨some 27, none, .mv (.t 1)⟩,
 ⟨some 28, none, .call 32 [(.t 27)]⟩,
 ⟨some 8, none, .mv (.t 28)⟩]) (
 .seq (
 .reg [⟨some 29, none, .ldn 5 (.t 7)⟩,
 ⟨some 30, none, .mv (.t 8)⟩,
 ⟨some 31, none, .call 15 [(.t 29), (.t 30)]⟩,
 ⟨some 9, none, .mv (.t 31)⟩]) (
 .seq (
 .seq (
 .reg [⟨some 32, none, .mv (.t 9)⟩,
 ⟨some 33, none, .mv (.t 6)⟩,
 ⟨some 34, none, .bin .neq (.t 32) (.t 33)⟩]) (
 .cond (.t 34) (
 .seq (
 .reg [⟨some 4, none, .mv (.c (.d (.bool false)))⟩]) (
 .ret)) (
 .skip))) (
 .seq (
 .seq (
 .draw [⟨some 35, none, .ldn 5 (.t 7)⟩,
 ⟨some 36, none, .ldn 5 (.t 2)⟩,
 ⟨some 37, none, .call 20 [(.t 36)]⟩]
 [⟨some 38, none, .call 22 [(.t 35), (.t 37)]⟩,
 ⟨some 39, none, .not (.t 38)⟩]) (
 .cond (.t 39) (
 .seq (
 .reg [⟨some 4, none, .mv (.c (.d (.bool false)))⟩]) (
 .ret)) (
 .skip))) (
 .seq (
 .seq (
 .reg [⟨some 40, none, .mv (.t 8)⟩,
 ⟨some 41, none, .mv (.t 1)⟩,
 ⟨some 42, none, .call 32 [(.t 41)]⟩,
 ⟨some 43, none, .call 27 [(.t 40), (.t 42)]⟩,
 ⟨some 44, none, .not (.t 43)⟩]) (
 .cond (.t 44) (
 .seq (
 .reg [⟨some 4, none, .mv (.c (.d (.bool false)))⟩]) (
 .ret)) (
 .skip))) (
 .seq (
 .reg [⟨some 4, none, .mv (.c (.d (.bool true)))⟩]) (
 .ret)))))))))))))),
 [.t 4]⟩

theorem k_laws_FnExactOrderCost : cFun Try.prog Try.f7 = some C_laws_FnExactOrderCost.erase := by kernel_rfl

end Go.Proofs.Ytjncdanegoileaa

/-
  The compiled code of functions of the seat (written by mkcode.py). No condition.
-/
namespace Go.Proofs.Ytjncdanegoileaa
open Go.Lift

def C_impl_orderState_size : Fun := ⟨2, 13,
 .seq (
 .reg [⟨some 4, none, .mv (.c (.d (.int 0)))⟩]) (
 .seq (
 .reg [⟨some 5, none, .mv (.t 0)⟩,
 ⟨some 6, none, .nck (.t 5)⟩,
 ⟨some 7, none, .fld 0 (.t 6)⟩,
 ⟨some 8, none, .ldn 100 (.t 7)⟩,
 ⟨some 9, none, .mv (.t 1)⟩,
 ⟨some 10, none, .call 93 [(.t 8), (.t 9)]⟩,
 ⟨some 11, none, .fdv 1 1 false (.t 10)⟩,
 ⟨some 12, none, .call 128 [(.t 11), (.c (.d (.int 1000000000)))]⟩,
 ⟨some 4, none, .mv (.t 12)⟩]) (
 .ret)),
 [.t 4]⟩

theorem k_impl_orderState_size : cFun Try.prog Try.f80 = some C_impl_orderState_size.erase := by kernel_rfl

def L0_spec_l17Run : C :=
 .seq (
 .reg [⟨some 16, none, .bin .lss (.t 15) (.t 14)⟩]) (
 .seq (
 .cond (.t 16) (
 .skip) (
 .exit 0)) (
 .seq (
 .block 1 (
 .seq (
 .reg [⟨some 17, none, .idx 2 (.t 13) (.t 15)⟩,
 ⟨some 18, none, .ldn 2 (.t 17)⟩,
 ⟨some 9, none, .zer [.d (.int 0), .d (.int 0)]⟩,
 ⟨none, none, .st 2 (.t 9) (.t 18)⟩]) (
 .reg [⟨some 19, none, .mv (.t 7)⟩,
 ⟨some 20, none, .mv (.t 6)⟩,
 ⟨some 21, none, .fld 4 (.t 2)⟩,
 ⟨some 22, none, .ld (.t 21)⟩,
 ⟨some 23, none, .ldn 2 (.t 9)⟩,
 ⟨some 24, none, .call 73 [(.t 20), (.t 22), (.t 23)]⟩,
 ⟨some 25, none, .mksl 1 1 [.d (.int 0)] [(0, 1, (.t 24))]⟩,
 ⟨some 26, none, .app 1 8 [.d (.int 0)] (.t 19) (.t 25)⟩,
 ⟨some 7, none, .mv (.t 26)⟩]))) (
 .reg [⟨some 27, none, .bin .add (.t 15) (.c (.d (.int 1)))⟩,
 ⟨some 15, none, .mv (.t 27)⟩])))

def C_spec_l17Run : Fun := ⟨2, 30,
 .seq (
 .reg [⟨some 2, none, .box (.t 0)⟩,
 ⟨some 4, none, .mv (.c (.any))⟩,
 ⟨some 5, none, .mv (.c (.nil))⟩]) (
 .seq (
 .reg [⟨some 10, none, .ldn 5 (.t 2)⟩,
 ⟨some 11, none, .call 70 [(.t 10)]⟩,
 ⟨some 6, none, .mv (.t 11)⟩]) (
 .seq (
 .reg [⟨some 12, none, .mksl 1 0 [.d (.int 0)] []⟩,
 ⟨some 7, none, .mv (.t 12)⟩]) (
 .seq (
 .seq (
 .reg [⟨some 13, none, .mv (.t 1)⟩,
 ⟨some 14, none, .len (.t 13)⟩,
 ⟨some 15, none, .mv (.c (.d (.int 0)))⟩]) (
 .block 0 (
 .loop L0_spec_l17Run))) (
 .seq (
 .reg [⟨some 28, none, .mv (.t 6)⟩,
 ⟨some 29, none, .mv (.t 7)⟩,
 ⟨some 4, none, .mv (.t 28)⟩,
 ⟨some 5, none, .mv (.t 29)⟩]) (
 .ret))))),
 [.t 4, .t 5]⟩

theorem k_spec_l17Run : cFun Try.prog Try.f127 = some C_spec_l17Run.erase := by kernel_rfl

end Go.Proofs.Ytjncdanegoileaa

/-
  The compiled code of functions of the seat (written by mkcode.py). No condition.
-/
namespace Go.Proofs.Ytjncdanegoileaa
open Go.Lift

def L0_impl_startState : C :=
 .seq (
 .reg [⟨some 26, none, .bin .lss (.t 25) (.t 24)⟩]) (
 .seq (
 .cond (.t 26) (
 .skip) (
 .exit 0)) (
 .seq (
 .block 1 (
 .seq (
 .reg [⟨some 27, none, .mv (.t 25)⟩,
 ⟨some 28, none, .idx 3 (.t 23) (.t 25)⟩,
 ⟨some 29, none, .ldn 3 (.t 28)⟩,
 ⟨some 7, none, .zer [.nil, .nil, .nil]⟩,
 ⟨some 6, none, .mv (.t 27)⟩,
 ⟨none, none, .st 3 (.t 7) (.t 29)⟩]) (
 .draw [⟨some 30, none, .mv (.t 5)⟩,
 ⟨some 31, none, .mv (.t 5)⟩,
 ⟨some 32, none, .nck (.t 31)⟩,
 ⟨some 33, none, .fld 101 (.t 32)⟩,
 ⟨some 34, none, .ld (.t 33)⟩,
 ⟨some 35, none, .mv (.t 6)⟩,
 ⟨some 36, none, .fld 0 (.t 7)⟩,
 ⟨some 37, none, .ld (.t 36)⟩,
 ⟨some 38, none, .call 85 [(.t 37)]⟩,
 ⟨some 39, none, .agg [.d (.int 0), .nil] [(0, 1, (.t 35)), (1, 1, (.t 38))]⟩,
 ⟨some 40, none, .mksl 2 1 [.d (.int 0), .nil] [(0, 2, (.t 39))]⟩]
 [⟨some 41, none, .app 2 32 [.d (.int 0), .nil] (.t 34) (.t 40)⟩,
 ⟨some 42, none, .nck (.t 30)⟩,
 ⟨some 43, none, .fld 101 (.t 42)⟩,
 ⟨none, none, .st 1 (.t 43) (.t 41)⟩]))) (
 .reg [⟨some 44, none, .bin .add (.t 25) (.c (.d (.int 1)))⟩,
 ⟨some 25, none, .mv (.t 44)⟩])))

def C_impl_startState : Fun := ⟨1, 46,
 .seq (
 .reg [⟨some 1, none, .box (.t 0)⟩,
 ⟨some 2, none, .mv (.c (.any))⟩]) (
 .seq (
 .reg [⟨some 9, none, .fld 3 (.t 1)⟩,
 ⟨some 10, none, .ld (.t 9)⟩,
 ⟨some 11, none, .call 91 [(.t 10)]⟩,
 ⟨some 8, none, .mv (.t 11)⟩,
 ⟨some 12, none, .ext 0 (.t 8)⟩,
 ⟨some 13, none, .ext 1 (.t 8)⟩,
 ⟨some 3, none, .zer (reps 100 (.d (.int 0)))⟩,
 ⟨none, none, .st 100 (.t 3) (.t 12)⟩,
 ⟨some 4, none, .mv (.t 13)⟩]) (
 .seq (
 .reg [⟨some 14, none, .ldn 100 (.t 3)⟩,
 ⟨some 15, none, .fld 4 (.t 1)⟩,
 ⟨some 16, none, .ld (.t 15)⟩,
 ⟨some 17, none, .fld 3 (.t 1)⟩,
 ⟨some 18, none, .ld (.t 17)⟩,
 ⟨some 19, none, .len (.t 18)⟩,
 ⟨some 20, none, .agg (reps 100 (.d (.int 0)) ++ [.nil, .nil, .d (.int 0)]) [(0, 100, (.t 14)), (100, 1, (.t 16)), (102, 1, (.t 19))]⟩,
 ⟨some 21, none, .box (.t 20)⟩,
 ⟨some 5, none, .mv (.t 21)⟩]) (
 .seq (
 .seq (
 .reg [⟨some 22, none, .fld 3 (.t 1)⟩,
 ⟨some 23, none, .ld (.t 22)⟩,
 ⟨some 24, none, .len (.t 23)⟩,
 ⟨some 25, none, .mv (.c (.d (.int 0)))⟩]) (
 .block 0 (
 .loop L0_impl_startState))) (
 .seq (
 .reg [⟨some 45, none, .mv (.t 5)⟩,
 ⟨some 2, none, .mv (.t 45)⟩]) (
 .ret))))),
 [.t 2]⟩

theorem k_impl_startState : cFunK Try.prog Try.f75 = some C_impl_startState.erase := by kernel_rfl

def L0_spec_l17New : C :=
 .seq (
 .reg [⟨some 12, none, .bin .lss (.t 11) (.t 10)⟩]) (
 .seq (
 .cond (.t 12) (
 .skip) (
 .exit 0)) (
 .seq (
 .block 1 (
 .seq (
 .reg [⟨some 13, none, .idx 3 (.t 9) (.t 11)⟩,
 ⟨some 14, none, .ldn 3 (.t 13)⟩,
 ⟨some 5, none, .zer [.nil, .nil, .nil]⟩,
 ⟨none, none, .st 3 (.t 5) (.t 14)⟩]) (
 .seq (
 .draw [⟨some 15, none, .mv (.t 3)⟩,
 ⟨some 16, none, .mv (.t 3)⟩,
 ⟨some 17, none, .nck (.t 16)⟩,
 ⟨some 18, none, .fld 0 (.t 17)⟩,
 ⟨some 19, none, .ld (.t 18)⟩,
 ⟨some 20, none, .fld 0 (.t 5)⟩,
 ⟨some 21, none, .ld (.t 20)⟩,
 ⟨some 22, none, .fld 1 (.t 5)⟩,
 ⟨some 23, none, .ld (.t 22)⟩,
 ⟨some 24, none, .agg [.nil, .nil, .nil] [(0, 1, (.t 21)), (1, 1, (.t 23))]⟩,
 ⟨some 25, none, .mksl 3 1 [.nil, .nil, .nil] [(0, 3, (.t 24))]⟩]
 [⟨some 26, none, .app 3 72 [.nil, .nil, .nil] (.t 19) (.t 25)⟩,
 ⟨some 27, none, .nck (.t 15)⟩,
 ⟨some 28, none, .fld 0 (.t 27)⟩,
 ⟨none, none, .st 1 (.t 28) (.t 26)⟩]) (
 .reg [⟨some 29, none, .mv (.t 3)⟩,
 ⟨some 30, none, .mv (.t 3)⟩,
 ⟨some 31, none, .nck (.t 30)⟩,
 ⟨some 32, none, .fld 1 (.t 31)⟩,
 ⟨some 33, none, .ld (.t 32)⟩,
 ⟨some 34, none, .mksl 1 1 [.d (.bool false)] [(0, 1, (.c (.d (.bool false))))]⟩,
 ⟨some 35, none, .app 1 1 [.d (.bool false)] (.t 33) (.t 34)⟩,
 ⟨some 36, none, .nck (.t 29)⟩,
 ⟨some 37, none, .fld 1 (.t 36)⟩,
 ⟨none, none, .st 1 (.t 37) (.t 35)⟩])))) (
 .reg [⟨some 38, none, .bin .add (.t 11) (.c (.d (.int 1)))⟩,
 ⟨some 11, none, .mv (.t 38)⟩])))

def C_spec_l17New : Fun := ⟨1, 40,
 .seq (
 .reg [⟨some 1, none, .box (.t 0)⟩,
 ⟨some 2, none, .mv (.c (.any))⟩]) (
 .seq (
 .reg [⟨some 6, none, .agg [.nil, .nil] []⟩,
 ⟨some 7, none, .box (.t 6)⟩,
 ⟨some 3, none, .mv (.t 7)⟩]) (
 .seq (
 .seq (
 .reg [⟨some 8, none, .fld 3 (.t 1)⟩,
 ⟨some 9, none, .ld (.t 8)⟩,
 ⟨some 10, none, .len (.t 9)⟩,
 ⟨some 11, none, .mv (.c (.d (.int 0)))⟩]) (
 .block 0 (
 .loop L0_spec_l17New))) (
 .seq (
 .reg [⟨some 39, none, .mv (.t 3)⟩,
 ⟨some 2, none, .mv (.t 39)⟩]) (
 .ret)))),
 [.t 2]⟩

theorem k_spec_l17New : cFunK Try.prog Try.f70 = some C_spec_l17New.erase := by kernel_rfl

def C_spec_l17Step : Fun := ⟨3, 78,
 .seq (
 .reg [⟨some 5, none, .box (.t 2)⟩,
 ⟨some 6, none, .mv (.c (.d (.int 0)))⟩]) (
 .seq (
 .draw [⟨some 12, none, .mv (.t 0)⟩,
 ⟨some 13, none, .nck (.t 12)⟩,
 ⟨some 14, none, .fld 0 (.t 13)⟩,
 ⟨some 15, none, .ld (.t 14)⟩,
 ⟨some 16, none, .fld 0 (.t 5)⟩,
 ⟨some 17, none, .ld (.t 16)⟩,
 ⟨some 18, none, .idx 3 (.t 15) (.t 17)⟩,
 ⟨some 19, none, .ldn 3 (.t 18)⟩,
 ⟨some 20, none, .mv (.t 0)⟩,
 ⟨some 21, none, .nck (.t 20)⟩,
 ⟨some 22, none, .fld 0 (.t 21)⟩,
 ⟨some 23, none, .ld (.t 22)⟩,
 ⟨some 24, none, .fld 1 (.t 5)⟩,
 ⟨some 25, none, .ld (.t 24)⟩,
 ⟨some 26, none, .idx 3 (.t 23) (.t 25)⟩,
 ⟨some 27, none, .ldn 3 (.t 26)⟩,
 ⟨some 28, none, .call 121 [(.t 19), (.t 27)]⟩,
 ⟨some 11, none, .mv (.t 28)⟩,
 ⟨some 29, none, .ext 0 (.t 11)⟩,
 ⟨some 30, none, .ext 1 (.t 11)⟩,
 ⟨some 31, none, .ext 2 (.t 11)⟩,
 ⟨some 7, none, .mv (.t 29)⟩,
 ⟨some 8, none, .mv (.t 30)⟩]
 [⟨some 9, none, .mv (.t 31)⟩]) (
 .seq (
 .reg [⟨some 32, none, .mv (.t 7)⟩,
 ⟨some 33, none, .mv (.t 8)⟩,
 ⟨some 34, none, .mv (.t 0)⟩,
 ⟨some 35, none, .mv (.t 1)⟩,
 ⟨some 36, none, .fld 0 (.t 5)⟩,
 ⟨some 37, none, .ld (.t 36)⟩,
 ⟨some 38, none, .fld 1 (.t 5)⟩,
 ⟨some 39, none, .ld (.t 38)⟩,
 ⟨some 40, none, .call 123 [(.t 34), (.t 35), (.t 37), (.t 39)]⟩,
 ⟨some 41, none, .call 122 [(.t 32), (.t 33), (.t 40)]⟩,
 ⟨some 10, none, .zer [.nil, .nil, .nil]⟩,
 ⟨none, none, .st 3 (.t 10) (.t 41)⟩]) (
 .seq (
 .draw [⟨some 42, none, .mv (.t 0)⟩,
 ⟨some 43, none, .nck (.t 42)⟩,
 ⟨some 44, none, .fld 1 (.t 43)⟩,
 ⟨some 45, none, .ld (.t 44)⟩,
 ⟨some 46, none, .fld 0 (.t 5)⟩,
 ⟨some 47, none, .ld (.t 46)⟩]
 [⟨some 48, none, .idx 1 (.t 45) (.t 47)⟩,
 ⟨none, none, .st 1 (.t 48) (.c (.d (.bool true)))⟩]) (
 .seq (
 .draw [⟨some 49, none, .mv (.t 0)⟩,
 ⟨some 50, none, .nck (.t 49)⟩,
 ⟨some 51, none, .fld 1 (.t 50)⟩,
 ⟨some 52, none, .ld (.t 51)⟩,
 ⟨some 53, none, .fld 1 (.t 5)⟩,
 ⟨some 54, none, .ld (.t 53)⟩]
 [⟨some 55, none, .idx 1 (.t 52) (.t 54)⟩,
 ⟨none, none, .st 1 (.t 55) (.c (.d (.bool true)))⟩]) (
 .seq (
 .draw [⟨some 56, none, .mv (.t 0)⟩,
 ⟨some 57, none, .mv (.t 0)⟩,
 ⟨some 58, none, .nck (.t 57)⟩,
 ⟨some 59, none, .fld 0 (.t 58)⟩,
 ⟨some 60, none, .ld (.t 59)⟩,
 ⟨some 61, none, .ldn 3 (.t 10)⟩,
 ⟨some 62, none, .mksl 3 1 [.nil, .nil, .nil] [(0, 3, (.t 61))]⟩]
 [⟨some 63, none, .app 3 72 [.nil, .nil, .nil] (.t 60) (.t 62)⟩,
 ⟨some 64, none, .nck (.t 56)⟩,
 ⟨some 65, none, .fld 0 (.t 64)⟩,
 ⟨none, none, .st 1 (.t 65) (.t 63)⟩]) (
 .seq (
 .reg [⟨some 66, none, .mv (.t 0)⟩,
 ⟨some 67, none, .mv (.t 0)⟩,
 ⟨some 68, none, .nck (.t 67)⟩,
 ⟨some 69, none, .fld 1 (.t 68)⟩,
 ⟨some 70, none, .ld (.t 69)⟩,
 ⟨some 71, none, .mksl 1 1 [.d (.bool false)] [(0, 1, (.c (.d (.bool false))))]⟩,
 ⟨some 72, none, .app 1 1 [.d (.bool false)] (.t 70) (.t 71)⟩,
 ⟨some 73, none, .nck (.t 66)⟩,
 ⟨some 74, none, .fld 1 (.t 73)⟩,
 ⟨none, none, .st 1 (.t 74) (.t 72)⟩]) (
 .seq (
 .reg [⟨some 75, none, .mv (.t 8)⟩,
 ⟨some 76, none, .call 125 [(.t 75), (.c (.d (.int 1000000000)))]⟩,
 ⟨some 77, none, .mnx false (.c (.d (.int 1000000000))) (.t 76)⟩,
 ⟨some 6, none, .mv (.t 77)⟩]) (
 .ret)))))))),
 [.t 6]⟩

theorem k_spec_l17Step : cFunK Try.prog Try.f73 = some C_spec_l17Step.erase := by kernel_rfl
end Go.Proofs.Ytjncdanegoileaa

/-
  The compiled code of functions of the seat (written by mkcode.py). No condition.
-/
namespace Go.Proofs.Ytjncdanegoileaa
open Go.Lift

def L0_spec_OrderOk : C :=
 .seq (
 .reg [⟨some 31, none, .bin .lss (.t 30) (.t 29)⟩]) (
 .seq (
 .cond (.t 31) (
 .skip) (
 .exit 0)) (
 .seq (
 .block 1 (
 .seq (
 .reg [⟨some 32, none, .mv (.t 30)⟩,
 ⟨some 33, none, .idx 2 (.t 28) (.t 30)⟩,
 ⟨some 34, none, .ldn 2 (.t 33)⟩,
 ⟨some 8, none, .zer [.d (.int 0), .d (.int 0)]⟩,
 ⟨some 7, none, .mv (.t 32)⟩,
 ⟨none, none, .st 2 (.t 8) (.t 34)⟩]) (
 .seq (
 .seq (
 .reg [⟨some 35, none, .fld 0 (.t 8)⟩,
 ⟨some 36, none, .ld (.t 35)⟩,
 ⟨some 37, none, .bin .lss (.t 36) (.c (.d (.int 0)))⟩,
 ⟨some 38, none, .mv (.t 37)⟩,
 ⟨some 39, some (38, false), .fld 0 (.t 8)⟩,
 ⟨some 40, some (38, false), .ld (.t 39)⟩,
 ⟨some 41, some (38, false), .fld 1 (.t 8)⟩,
 ⟨some 42, some (38, false), .ld (.t 41)⟩,
 ⟨some 43, some (38, false), .bin .geq (.t 40) (.t 42)⟩,
 ⟨some 44, none, .pick (.t 38) (.c (.d (.bool true))) (.t 43)⟩,
 ⟨some 45, none, .mv (.t 44)⟩,
 ⟨some 46, some (45, false), .fld 1 (.t 8)⟩,
 ⟨some 47, some (45, false), .ld (.t 46)⟩,
 ⟨some 48, some (45, false), .mv (.t 5)⟩,
 ⟨some 49, some (45, false), .mv (.t 7)⟩,
 ⟨some 50, some (45, false), .bin .add (.t 48) (.t 49)⟩,
 ⟨some 51, some (45, false), .bin .geq (.t 47) (.t 50)⟩,
 ⟨some 52, none, .pick (.t 45) (.c (.d (.bool true))) (.t 51)⟩,
 ⟨some 53, none, .mv (.t 52)⟩,
 ⟨some 54, some (53, false), .mv (.t 6)⟩,
 ⟨some 55, some (53, false), .fld 0 (.t 8)⟩,
 ⟨some 56, some (53, false), .ld (.t 55)⟩,
 ⟨some 57, some (53, false), .idx 1 (.t 54) (.t 56)⟩,
 ⟨some 58, some (53, false), .ld (.t 57)⟩,
 ⟨some 59, none, .pick (.t 53) (.c (.d (.bool true))) (.t 58)⟩,
 ⟨some 60, none, .mv (.t 59)⟩,
 ⟨some 61, some (60, false), .mv (.t 6)⟩,
 ⟨some 62, some (60, false), .fld 1 (.t 8)⟩,
 ⟨some 63, some (60, false), .ld (.t 62)⟩,
 ⟨some 64, some (60, false), .idx 1 (.t 61) (.t 63)⟩,
 ⟨some 65, some (60, false), .ld (.t 64)⟩,
 ⟨some 66, none, .pick (.t 60) (.c (.d (.bool true))) (.t 65)⟩]) (
 .cond (.t 66) (
 .seq (
 .reg [⟨some 4, none, .mv (.c (.d (.bool false)))⟩]) (
 .ret)) (
 .skip))) (
 .seq (
 .reg [⟨some 67, none, .mv (.t 6)⟩,
 ⟨some 68, none, .fld 0 (.t 8)⟩,
 ⟨some 69, none, .ld (.t 68)⟩,
 ⟨some 70, none, .idx 1 (.t 67) (.t 69)⟩,
 ⟨none, none, .st 1 (.t 70) (.c (.d (.bool true)))⟩]) (
 .reg [⟨some 71, none, .mv (.t 6)⟩,
 ⟨some 72, none, .fld 1 (.t 8)⟩,
 ⟨some 73, none, .ld (.t 72)⟩,
 ⟨some 74, none, .idx 1 (.t 71) (.t 73)⟩,
 ⟨none, none, .st 1 (.t 74) (.c (.d (.bool true)))⟩]))))) (
 .reg [⟨some 75, none, .bin .add (.t 30) (.c (.d (.int 1)))⟩,
 ⟨some 30, none, .mv (.t 75)⟩])))

def C_spec_OrderOk : Fun := ⟨2, 76,
 .seq (
 .reg [⟨some 2, none, .box (.t 0)⟩,
 ⟨some 4, none, .mv (.c (.d (.bool false)))⟩]) (
 .seq (
 .reg [⟨some 9, none, .fld 3 (.t 2)⟩,
 ⟨some 10, none, .ld (.t 9)⟩,
 ⟨some 11, none, .len (.t 10)⟩,
 ⟨some 5, none, .mv (.t 11)⟩]) (
 .seq (
 .seq (
 .reg [⟨some 12, none, .ldn 5 (.t 2)⟩,
 ⟨some 13, none, .call 69 [(.t 12)]⟩,
 ⟨some 14, none, .not (.t 13)⟩,
 ⟨some 15, none, .mv (.t 14)⟩,
 ⟨some 16, some (15, false), .mv (.t 1)⟩,
 ⟨some 17, some (15, false), .len (.t 16)⟩,
 ⟨some 18, some (15, false), .mv (.t 5)⟩,
 ⟨some 19, some (15, false), .bin .sub (.t 18) (.c (.d (.int 1)))⟩,
 ⟨some 20, some (15, false), .mnx true (.c (.d (.int 0))) (.t 19)⟩,
 ⟨some 21, some (15, false), .bin .neq (.t 17) (.t 20)⟩,
 ⟨some 22, none, .pick (.t 15) (.c (.d (.bool true))) (.t 21)⟩]) (
 .cond (.t 22) (
 .seq (
 .reg [⟨some 4, none, .mv (.c (.d (.bool false)))⟩]) (
 .ret)) (
 .skip))) (
 .seq (
 .reg [⟨some 23, none, .mv (.t 5)⟩,
 ⟨some 24, none, .mv (.t 1)⟩,
 ⟨some 25, none, .len (.t 24)⟩,
 ⟨some 26, none, .bin .add (.t 23) (.t 25)⟩,
 ⟨some 27, none, .make 1 1 [.d (.bool false)] (.t 26) (.t 26)⟩,
 ⟨some 6, none, .mv (.t 27)⟩]) (
 .seq (
 .seq (
 .reg [⟨some 28, none, .mv (.t 1)⟩,
 ⟨some 29, none, .len (.t 28)⟩,
 ⟨some 30, none, .mv (.c (.d (.int 0)))⟩]) (
 .block 0 (
 .loop L0_spec_OrderOk))) (
 .seq (
 .reg [⟨some 4, none, .mv (.c (.d (.bool true)))⟩]) (
 .ret)))))),
 [.t 4]⟩

theorem k_spec_OrderOk : cFun Try.prog Try.f77 = some C_spec_OrderOk.erase := by kernel_rfl

def L0_impl_OrderOk : C :=
 .seq (
 .reg [⟨some 26, none, .bin .lss (.t 25) (.t 24)⟩]) (
 .seq (
 .cond (.t 26) (
 .skip) (
 .exit 0)) (
 .seq (
 .block 1 (
 .seq (
 .reg [⟨some 27, none, .idx 2 (.t 23) (.t 25)⟩,
 ⟨some 28, none, .ldn 2 (.t 27)⟩,
 ⟨some 7, none, .zer [.d (.int 0), .d (.int 0)]⟩,
 ⟨none, none, .st 2 (.t 7) (.t 28)⟩]) (
 .seq (
 .reg [⟨some 29, none, .mv (.t 5)⟩,
 ⟨some 30, none, .ldn 2 (.t 7)⟩,
 ⟨some 31, none, .call 81 [(.t 29), (.t 30)]⟩,
 ⟨some 32, none, .not (.t 31)⟩]) (
 .cond (.t 32) (
 .seq (
 .reg [⟨some 4, none, .mv (.c (.d (.bool false)))⟩]) (
 .ret)) (
 .skip))))) (
 .reg [⟨some 33, none, .bin .add (.t 25) (.c (.d (.int 1)))⟩,
 ⟨some 25, none, .mv (.t 33)⟩])))

def C_impl_OrderOk : Fun := ⟨2, 34,
 .seq (
 .reg [⟨some 2, none, .box (.t 0)⟩,
 ⟨some 4, none, .mv (.c (.d (.bool false)))⟩]) (
 .seq (
 .seq (
 .reg [⟨some 8, none, .ldn 5 (.t 2)⟩,
 ⟨some 9, none, .call 56 [(.t 8)]⟩,
 ⟨some 10, none, .not (.t 9)⟩,
 ⟨some 11, none, .mv (.t 10)⟩,
 ⟨some 12, some (11, false), .mv (.t 1)⟩,
 ⟨some 13, some (11, false), .len (.t 12)⟩,
 ⟨some 14, some (11, false), .fld 3 (.t 2)⟩,
 ⟨some 15, some (11, false), .ld (.t 14)⟩,
 ⟨some 16, some (11, false), .len (.t 15)⟩,
 ⟨some 17, some (11, false), .bin .sub (.t 16) (.c (.d (.int 1)))⟩,
 ⟨some 18, some (11, false), .mnx true (.t 17) (.c (.d (.int 0)))⟩,
 ⟨some 19, some (11, false), .bin .neq (.t 13) (.t 18)⟩,
 ⟨some 20, none, .pick (.t 11) (.c (.d (.bool true))) (.t 19)⟩]) (
 .cond (.t 20) (
 .seq (
 .reg [⟨some 4, none, .mv (.c (.d (.bool false)))⟩]) (
 .ret)) (
 .skip))) (
 .seq (
 .reg [⟨some 21, none, .ldn 5 (.t 2)⟩,
 ⟨some 22, none, .call 75 [(.t 21)]⟩,
 ⟨some 5, none, .mv (.t 22)⟩]) (
 .seq (
 .seq (
 .reg [⟨some 23, none, .mv (.t 1)⟩,
 ⟨some 24, none, .len (.t 23)⟩,
 ⟨some 25, none, .mv (.c (.d (.int 0)))⟩]) (
 .block 0 (
 .loop L0_impl_OrderOk))) (
 .seq (
 .reg [⟨some 4, none, .mv (.c (.d (.bool true)))⟩]) (
 .ret))))),
 [.t 4]⟩

theorem k_impl_OrderOk : cFun Try.prog Try.f44 = some C_impl_OrderOk.erase := by kernel_rfl

def C_impl_orderState_follow : Fun := ⟨2, 32,
 .seq (
 .reg [⟨some 3, none, .box (.t 1)⟩,
 ⟨some 4, none, .mv (.c (.d (.bool false)))⟩]) (
 .seq (
 .draw [⟨some 7, none, .mv (.t 0)⟩,
 ⟨some 8, none, .fld 0 (.t 3)⟩,
 ⟨some 9, none, .ld (.t 8)⟩,
 ⟨some 10, none, .call 102 [(.t 7), (.t 9)]⟩,
 ⟨some 11, none, .mv (.t 0)⟩,
 ⟨some 12, none, .fld 1 (.t 3)⟩,
 ⟨some 13, none, .ld (.t 12)⟩]
 [⟨some 14, none, .call 102 [(.t 11), (.t 13)]⟩,
 ⟨some 5, none, .mv (.t 10)⟩,
 ⟨some 6, none, .mv (.t 14)⟩]) (
 .seq (
 .seq (
 .reg [⟨some 15, none, .mv (.t 5)⟩,
 ⟨some 16, none, .bin .lss (.t 15) (.c (.d (.int 0)))⟩,
 ⟨some 17, none, .mv (.t 16)⟩,
 ⟨some 18, some (17, false), .mv (.t 6)⟩,
 ⟨some 19, some (17, false), .bin .lss (.t 18) (.c (.d (.int 0)))⟩,
 ⟨some 20, none, .pick (.t 17) (.c (.d (.bool true))) (.t 19)⟩,
 ⟨some 21, none, .mv (.t 20)⟩,
 ⟨some 22, some (21, false), .fld 0 (.t 3)⟩,
 ⟨some 23, some (21, false), .ld (.t 22)⟩,
 ⟨some 24, some (21, false), .fld 1 (.t 3)⟩,
 ⟨some 25, some (21, false), .ld (.t 24)⟩,
 ⟨some 26, some (21, false), .bin .geq (.t 23) (.t 25)⟩,
 ⟨some 27, none, .pick (.t 21) (.c (.d (.bool true))) (.t 26)⟩]) (
 .cond (.t 27) (
 .seq (
 .reg [⟨some 4, none, .mv (.c (.d (.bool false)))⟩]) (
 .ret)) (
 .skip))) (
 .seq (
 .reg [⟨some 28, none, .mv (.t 0)⟩,
 ⟨some 29, none, .mv (.t 5)⟩,
 ⟨some 30, none, .mv (.t 6)⟩,
 ⟨some 31, none, .call 104 [(.t 28), (.t 29), (.t 30)]⟩]) (
 .seq (
 .reg [⟨some 4, none, .mv (.c (.d (.bool true)))⟩]) (
 .ret))))),
 [.t 4]⟩

theorem k_impl_orderState_follow : cFun Try.prog Try.f81 = some C_impl_orderState_follow.erase := by kernel_rfl

def L0_impl_orderState_place : C :=
 .seq (
 .reg [⟨some 13, none, .bin .lss (.t 12) (.t 11)⟩]) (
 .seq (
 .cond (.t 13) (
 .skip) (
 .exit 0)) (
 .seq (
 .block 1 (
 .seq (
 .reg [⟨some 14, none, .mv (.t 12)⟩,
 ⟨some 15, none, .idx 2 (.t 10) (.t 12)⟩,
 ⟨some 16, none, .ldn 2 (.t 15)⟩,
 ⟨some 6, none, .zer [.d (.int 0), .nil]⟩,
 ⟨some 5, none, .mv (.t 14)⟩,
 ⟨none, none, .st 2 (.t 6) (.t 16)⟩]) (
 .seq (
 .reg [⟨some 17, none, .fld 0 (.t 6)⟩,
 ⟨some 18, none, .ld (.t 17)⟩,
 ⟨some 19, none, .mv (.t 1)⟩,
 ⟨some 20, none, .bin .eql (.t 18) (.t 19)⟩]) (
 .cond (.t 20) (
 .seq (
 .reg [⟨some 21, none, .mv (.t 5)⟩,
 ⟨some 4, none, .mv (.t 21)⟩]) (
 .ret)) (
 .skip))))) (
 .reg [⟨some 22, none, .bin .add (.t 12) (.c (.d (.int 1)))⟩,
 ⟨some 12, none, .mv (.t 22)⟩])))

def C_impl_orderState_place : Fun := ⟨2, 23,
 .seq (
 .reg [⟨some 4, none, .mv (.c (.d (.int 0)))⟩]) (
 .seq (
 .seq (
 .reg [⟨some 7, none, .mv (.t 0)⟩,
 ⟨some 8, none, .nck (.t 7)⟩,
 ⟨some 9, none, .fld 101 (.t 8)⟩,
 ⟨some 10, none, .ld (.t 9)⟩,
 ⟨some 11, none, .len (.t 10)⟩,
 ⟨some 12, none, .mv (.c (.d (.int 0)))⟩]) (
 .block 0 (
 .loop L0_impl_orderState_place))) (
 .seq (
 .reg [⟨some 4, none, .mv (.c (.d (.int (-1))))⟩]) (
 .ret))),
 [.t 4]⟩

theorem k_impl_orderState_place : cFun Try.prog Try.f102 = some C_impl_orderState_place.erase := by kernel_rfl

def L0_impl_orderState_contract : C :=
 .seq (
 .reg [⟨some 44, none, .bin .lss (.t 43) (.t 42)⟩]) (
 .seq (
 .cond (.t 44) (
 .skip) (
 .exit 0)) (
 .seq (
 .block 1 (
 .seq (
 .reg [⟨some 45, none, .mv (.t 43)⟩,
 ⟨some 46, none, .idx 2 (.t 41) (.t 43)⟩,
 ⟨some 47, none, .ldn 2 (.t 46)⟩,
 ⟨some 11, none, .zer [.d (.int 0), .nil]⟩,
 ⟨some 10, none, .mv (.t 45)⟩,
 ⟨none, none, .st 2 (.t 11) (.t 47)⟩]) (
 .seq (
 .reg [⟨some 48, none, .mv (.t 10)⟩,
 ⟨some 49, none, .mv (.t 1)⟩,
 ⟨some 50, none, .bin .neq (.t 48) (.t 49)⟩,
 ⟨some 51, none, .mv (.t 50)⟩,
 ⟨some 52, some (51, true), .mv (.t 10)⟩,
 ⟨some 53, some (51, true), .mv (.t 2)⟩,
 ⟨some 54, some (51, true), .bin .neq (.t 52) (.t 53)⟩,
 ⟨some 55, none, .pick (.t 51) (.t 54) (.c (.d (.bool false)))⟩]) (
 .cond (.t 55) (
 .reg [⟨some 56, none, .mv (.t 9)⟩,
 ⟨some 57, none, .ldn 2 (.t 11)⟩,
 ⟨some 58, none, .mksl 2 1 [.d (.int 0), .nil] [(0, 2, (.t 57))]⟩,
 ⟨some 59, none, .app 2 32 [.d (.int 0), .nil] (.t 56) (.t 58)⟩,
 ⟨some 9, none, .mv (.t 59)⟩]) (
 .skip))))) (
 .reg [⟨some 60, none, .bin .add (.t 43) (.c (.d (.int 1)))⟩,
 ⟨some 43, none, .mv (.t 60)⟩])))

def C_impl_orderState_contract : Fun := ⟨3, 76,
 .seq (
 .reg [⟨some 6, none, .zer [.d (.int 0), .d (.int 0)]⟩]) (
 .seq (
 .draw [⟨some 12, none, .mv (.t 0)⟩,
 ⟨some 13, none, .nck (.t 12)⟩,
 ⟨some 14, none, .fld 101 (.t 13)⟩,
 ⟨some 15, none, .ld (.t 14)⟩,
 ⟨some 16, none, .mv (.t 1)⟩,
 ⟨some 17, none, .idx 2 (.t 15) (.t 16)⟩,
 ⟨some 18, none, .fld 0 (.t 17)⟩,
 ⟨some 19, none, .ld (.t 18)⟩,
 ⟨some 20, none, .mv (.t 0)⟩,
 ⟨some 21, none, .nck (.t 20)⟩,
 ⟨some 22, none, .fld 101 (.t 21)⟩,
 ⟨some 23, none, .ld (.t 22)⟩,
 ⟨some 24, none, .mv (.t 2)⟩,
 ⟨some 25, none, .idx 2 (.t 23) (.t 24)⟩,
 ⟨some 26, none, .fld 0 (.t 25)⟩,
 ⟨some 27, none, .ld (.t 26)⟩,
 ⟨some 28, none, .agg [.d (.int 0), .d (.int 0)] [(0, 1, (.t 19)), (1, 1, (.t 27))]⟩,
 ⟨some 7, none, .zer [.d (.int 0), .d (.int 0)]⟩]
 [⟨none, none, .st 2 (.t 7) (.t 28)⟩]) (
 .seq (
 .draw [⟨some 29, none, .mv (.t 0)⟩,
 ⟨some 30, none, .nck (.t 29)⟩,
 ⟨some 31, none, .fld 102 (.t 30)⟩,
 ⟨some 32, none, .ld (.t 31)⟩,
 ⟨some 33, none, .mv (.t 0)⟩,
 ⟨some 34, none, .mv (.t 1)⟩,
 ⟨some 35, none, .mv (.t 2)⟩,
 ⟨some 36, none, .call 126 [(.t 33), (.t 34), (.t 35)]⟩,
 ⟨some 37, none, .agg [.d (.int 0), .nil] [(0, 1, (.t 32)), (1, 1, (.t 36))]⟩,
 ⟨some 8, none, .zer [.d (.int 0), .nil]⟩]
 [⟨none, none, .st 2 (.t 8) (.t 37)⟩]) (
 .seq (
 .reg [⟨some 9, none, .mv (.c (.nil))⟩]) (
 .seq (
 .seq (
 .reg [⟨some 38, none, .mv (.t 0)⟩,
 ⟨some 39, none, .nck (.t 38)⟩,
 ⟨some 40, none, .fld 101 (.t 39)⟩,
 ⟨some 41, none, .ld (.t 40)⟩,
 ⟨some 42, none, .len (.t 41)⟩,
 ⟨some 43, none, .mv (.c (.d (.int 0)))⟩]) (
 .block 0 (
 .loop L0_impl_orderState_contract))) (
 .seq (
 .reg [⟨some 61, none, .mv (.t 0)⟩,
 ⟨some 62, none, .mv (.t 9)⟩,
 ⟨some 63, none, .ldn 2 (.t 8)⟩,
 ⟨some 64, none, .mksl 2 1 [.d (.int 0), .nil] [(0, 2, (.t 63))]⟩,
 ⟨some 65, none, .app 2 32 [.d (.int 0), .nil] (.t 62) (.t 64)⟩,
 ⟨some 66, none, .nck (.t 61)⟩,
 ⟨some 67, none, .fld 101 (.t 66)⟩,
 ⟨none, none, .st 1 (.t 67) (.t 65)⟩]) (
 .seq (
 .reg [⟨some 68, none, .mv (.t 0)⟩,
 ⟨some 69, none, .nck (.t 68)⟩,
 ⟨some 70, none, .fld 102 (.t 69)⟩,
 ⟨some 71, none, .ld (.t 70)⟩,
 ⟨some 72, none, .bin .add (.t 71) (.c (.d (.int 1)))⟩,
 ⟨some 73, none, .nck (.t 68)⟩,
 ⟨some 74, none, .fld 102 (.t 73)⟩,
 ⟨none, none, .st 1 (.t 74) (.t 72)⟩]) (
 .seq (
 .reg [⟨some 75, none, .ldn 2 (.t 7)⟩,
 ⟨none, none, .st 2 (.t 6) (.t 75)⟩]) (
 .ret)))))))),
 [.cell 6 2]⟩

theorem k_impl_orderState_contract : cFun Try.prog Try.f104 = some C_impl_orderState_contract.erase := by kernel_rfl

def L0_impl_orderState_resultLabels : C :=
 .seq (
 .reg [⟨some 47, none, .bin .lss (.t 46) (.t 45)⟩]) (
 .seq (
 .cond (.t 47) (
 .skip) (
 .exit 2)) (
 .seq (
 .block 3 (
 .seq (
 .reg [⟨some 48, none, .mv (.t 46)⟩,
 ⟨some 49, none, .idx 2 (.t 44) (.t 46)⟩,
 ⟨some 50, none, .ldn 2 (.t 49)⟩,
 ⟨some 12, none, .zer [.d (.int 0), .nil]⟩,
 ⟨some 11, none, .mv (.t 48)⟩,
 ⟨none, none, .st 2 (.t 12) (.t 50)⟩]) (
 .seq (
 .reg [⟨some 51, none, .mv (.t 11)⟩,
 ⟨some 52, none, .mv (.t 1)⟩,
 ⟨some 53, none, .bin .neq (.t 51) (.t 52)⟩,
 ⟨some 54, none, .mv (.t 53)⟩,
 ⟨some 55, some (54, true), .mv (.t 11)⟩,
 ⟨some 56, some (54, true), .mv (.t 2)⟩,
 ⟨some 57, some (54, true), .bin .neq (.t 55) (.t 56)⟩,
 ⟨some 58, none, .pick (.t 54) (.t 57) (.c (.d (.bool false)))⟩,
 ⟨some 59, none, .mv (.t 58)⟩,
 ⟨some 60, some (59, true), .fld 1 (.t 12)⟩,
 ⟨some 61, some (59, true), .ld (.t 60)⟩,
 ⟨some 62, some (59, true), .mv (.t 9)⟩,
 ⟨some 63, some (59, true), .call 84 [(.t 61), (.t 62)]⟩,
 ⟨some 64, none, .pick (.t 59) (.t 63) (.c (.d (.bool false)))⟩]) (
 .cond (.t 64) (
 .reg [⟨some 10, none, .mv (.c (.d (.bool true)))⟩]) (
 .skip))))) (
 .reg [⟨some 65, none, .bin .add (.t 46) (.c (.d (.int 1)))⟩,
 ⟨some 46, none, .mv (.t 65)⟩])))

def L1_impl_orderState_resultLabels : C :=
 .seq (
 .reg [⟨some 32, none, .bin .lss (.t 31) (.t 30)⟩]) (
 .seq (
 .cond (.t 32) (
 .skip) (
 .exit 0)) (
 .seq (
 .block 1 (
 .seq (
 .reg [⟨some 33, none, .idx 1 (.t 29) (.t 31)⟩,
 ⟨some 34, none, .ld (.t 33)⟩,
 ⟨some 9, none, .mv (.t 34)⟩]) (
 .seq (
 .reg [⟨some 35, none, .mv (.t 0)⟩,
 ⟨some 36, none, .nck (.t 35)⟩,
 ⟨some 37, none, .fld 100 (.t 36)⟩,
 ⟨some 38, none, .ld (.t 37)⟩,
 ⟨some 39, none, .mv (.t 9)⟩,
 ⟨some 40, none, .call 84 [(.t 38), (.t 39)]⟩,
 ⟨some 10, none, .mv (.t 40)⟩]) (
 .seq (
 .seq (
 .reg [⟨some 41, none, .mv (.t 0)⟩,
 ⟨some 42, none, .nck (.t 41)⟩,
 ⟨some 43, none, .fld 101 (.t 42)⟩,
 ⟨some 44, none, .ld (.t 43)⟩,
 ⟨some 45, none, .len (.t 44)⟩,
 ⟨some 46, none, .mv (.c (.d (.int 0)))⟩]) (
 .block 2 (
 .loop L0_impl_orderState_resultLabels))) (
 .seq (
 .reg [⟨some 66, none, .mv (.t 10)⟩]) (
 .cond (.t 66) (
 .reg [⟨some 67, none, .mv (.t 7)⟩,
 ⟨some 68, none, .mv (.t 9)⟩,
 ⟨some 69, none, .mksl 1 1 [.d (.int 0)] [(0, 1, (.t 68))]⟩,
 ⟨some 70, none, .app 1 8 [.d (.int 0)] (.t 67) (.t 69)⟩,
 ⟨some 7, none, .mv (.t 70)⟩]) (
 .skip))))))) (
 .reg [⟨some 71, none, .bin .add (.t 31) (.c (.d (.int 1)))⟩,
 ⟨some 31, none, .mv (.t 71)⟩])))

def C_impl_orderState_resultLabels : Fun := ⟨3, 73,
 .seq (
 .reg [⟨some 6, none, .mv (.c (.nil))⟩]) (
 .seq (
 .reg [⟨some 7, none, .mv (.c (.nil))⟩]) (
 .seq (
 .seq (
 .draw [⟨some 13, none, .mv (.t 0)⟩,
 ⟨some 14, none, .nck (.t 13)⟩,
 ⟨some 15, none, .fld 101 (.t 14)⟩,
 ⟨some 16, none, .ld (.t 15)⟩,
 ⟨some 17, none, .mv (.t 1)⟩,
 ⟨some 18, none, .idx 2 (.t 16) (.t 17)⟩,
 ⟨some 19, none, .fld 1 (.t 18)⟩,
 ⟨some 20, none, .ld (.t 19)⟩,
 ⟨some 21, none, .mv (.t 0)⟩,
 ⟨some 22, none, .nck (.t 21)⟩,
 ⟨some 23, none, .fld 101 (.t 22)⟩,
 ⟨some 24, none, .ld (.t 23)⟩,
 ⟨some 25, none, .mv (.t 2)⟩,
 ⟨some 26, none, .idx 2 (.t 24) (.t 25)⟩,
 ⟨some 27, none, .fld 1 (.t 26)⟩,
 ⟨some 28, none, .ld (.t 27)⟩,
 ⟨some 29, none, .call 103 [(.t 20), (.t 28)]⟩,
 ⟨some 30, none, .len (.t 29)⟩,
 ⟨some 31, none, .mv (.c (.d (.int 0)))⟩]
 []) (
 .block 0 (
 .loop L1_impl_orderState_resultLabels))) (
 .seq (
 .reg [⟨some 72, none, .mv (.t 7)⟩,
 ⟨some 6, none, .mv (.t 72)⟩]) (
 .ret)))),
 [.t 6]⟩

theorem k_impl_orderState_resultLabels : cFun Try.prog Try.f126 = some C_impl_orderState_resultLabels.erase := by kernel_rfl

end Go.Proofs.Ytjncdanegoileaa

/-
  LIFT, part 30: a state seen otherwise: other names; what nobody will write any more; slices taken into a row and out of it. No condition.
-/
namespace Go.Lift
open Go.RowKit

/-! ### Other names -/
def keepG (live : List Nat) (ρ : Nat → Option Nat) : Nat → List AV → List AV
  | _, [] => []
  | i, x :: l => (if live.contains i then rn ρ x else .any) :: keepG live ρ (i + 1) l
/-- The first m roots and those in ids, in this order. -/
def renS (m : Nat) (ids : List Nat) (σ : Sto) : Sto := (σ.take m ++ ids.map (at_ σ)).map (Option.map fun R => { R with cells := rnL (nrmR m ids) R.cells })
theorem keepG_len (live : List Nat) (ρ : Nat → Option Nat) : ∀ (l : List AV) (i : Nat), (keepG live ρ i l).length = l.length
  | [], _ => rfl
  | x :: l, i => by simp [keepG, keepG_len live ρ l]
theorem keepG_get (live : List Nat) (ρ : Nat → Option Nat) : ∀ (l : List AV) (i j : Nat), (keepG live ρ i l)[j]? = (l[j]?).map fun x => if live.contains (i + j) then rn ρ x else .any
  | [], _, _ => by simp [keepG]
  | x :: l, i, 0 => by simp [keepG]
  | x :: l, i, j + 1 => by
    simp only [keepG, List.getElem?_cons_succ]
    rw [keepG_get live ρ l (i + 1) j, show i + 1 + j = i + (j + 1) by omega]
theorem at_renS {m : Nat} {ids : List Nat} {σ : Sto} (hl : m ≤ σ.length) (k' : Nat) : at_ (renS m ids σ) k' = (if k' < m then at_ σ k' else ((ids[k' - m]?).bind (at_ σ))).map (fun R => { R with cells := rnL (nrmR m ids) R.cells }) := by
  have htl : (σ.take m).length = m := by simp; omega
  simp only [renS, at_, List.getElem?_map, List.getElem?_append, htl]
  by_cases hk : k' < m
  · rw [if_pos hk, if_pos hk, List.getElem?_take, if_pos hk]
    cases σ[k']? with
    | none => rfl
    | some x => cases x <;> rfl
  · rw [if_neg hk, if_neg hk]
    cases hi : ids[k' - m]? with
    | none => simp
    | some i =>
      simp only [Option.map_some, Option.bind_some, at_]
      cases σ[i]? with
      | none => rfl
      | some x => cases x <;> rfl
theorem ren_nrm {m : Nat} {ids : List Nat} {σ : Sto} (hl : m ≤ σ.length) (hnd : ids.Nodup) (hids : ∀ k ∈ ids, m ≤ k) (φ : Nat → Nat) :
    Ren (nrmR m ids) φ (at_ σ) (fun k' => if k' < m then φ k' else φ (ids.getD (k' - m) 0)) (at_ (renS m ids σ)) := by
  refine ⟨fun k k' R hk hR => ?_, fun k' R' hR' => ?_, fun k1 k2 k' h1 h2 => ?_⟩
  · unfold nrmR at hk
    split at hk
    · rename_i hlt
      simp only [Option.some.injEq] at hk
      subst hk
      exact ⟨by simp [hlt], by rw [at_renS hl, if_pos hlt, hR]; rfl⟩
    · simp only [Option.map_eq_some_iff] at hk
      obtain ⟨j, hj, rfl⟩ := hk
      have hg := posOf_get hj
      have hnl : ¬ j + m < m := by omega
      refine ⟨by simp [hnl, hg], ?_⟩
      rw [at_renS hl, if_neg hnl, show j + m - m = j by omega, hg]
      simp [hR]
  · rw [at_renS hl] at hR'
    simp only [Option.map_eq_some_iff] at hR'
    obtain ⟨R, hR, _⟩ := hR'
    split at hR
    · rename_i hlt
      exact ⟨k', R, by simp [nrmR, hlt], hR⟩
    · rename_i hlt
      simp only [Option.bind_eq_some_iff] at hR
      obtain ⟨i, hi, hR⟩ := hR
      have hil : ¬ i < m := by have := hids i (List.mem_of_getElem? hi); omega
      refine ⟨i, R, ?_, hR⟩
      unfold nrmR
      rw [if_neg hil, posOf_of hnd hi]
      simp
      omega
  · unfold nrmR at h1 h2
    split at h1 <;> split at h2
    · simp only [Option.some.injEq] at h1 h2; omega
    · simp only [Option.some.injEq, Option.map_eq_some_iff] at h1 h2
      obtain ⟨j, _, h2⟩ := h2
      omega
    · simp only [Option.some.injEq, Option.map_eq_some_iff] at h1 h2
      obtain ⟨j, _, h1⟩ := h1
      omega
    · simp only [Option.map_eq_some_iff] at h1 h2
      obtain ⟨j1, h3, h4⟩ := h1
      obtain ⟨j2, h5, h6⟩ := h2
      have : j1 = j2 := by omega
      subst this
      have e1 := posOf_get h3
      have e2 := posOf_get h5
      rw [e1] at e2
      simpa using e2
theorem Wk.ren {m0 : Nat} (live ids : List Nat) (m : Nat) {e e' : List AV} {σ σ' : Sto} (hm : m0 ≤ m) (hl : m ≤ σ.length) (hn : ids.Nodup) (hi : ∀ k ∈ ids, m ≤ k) (h1 : keepG live (nrmR m ids) 0 e = e') (h2 : renS m ids σ = σ') : Wk m0 e σ e' σ' := by
  subst h1 h2
  intro γ φ w vs hS hE
  have hR := ren_nrm hl hn hi φ
  obtain ⟨hK', hS'⟩ := hS.rn hR
  refine ⟨_, _, hK', hS', RelL.of_get ?_ fun i x hx => ?_, fun k R hk hRk hg => ?_⟩
  · have := hE.len; simpa [keepG_len] using this
  · rw [keepG_get] at hx
    simp only [Option.map_eq_some_iff] at hx
    obtain ⟨y, hy, rfl⟩ := hx
    obtain ⟨v, hv, hr⟩ := hE.get hy
    refine ⟨v, hv, ?_⟩
    split
    · exact Rel.rn hR y v hr
    · simp [Rel]
  · have hk' : k < m := by omega
    exact ⟨⟨by simp [hk'], fun hl => by simp [hl, Lab.rn, nrmR, hk']⟩, { R with cells := rnL (nrmR m ids) R.cells }, by rw [at_renS hl, if_pos hk', hRk]; rfl, hg⟩

/-! ### A change of leaves -/
mutual
def mapA (g : AV → AV) : AV → AV
  | .agg l => .agg (mapL g l)
  | .tup l => .tup (mapL g l)
  | .any => g .any | .und => g .und | .nil => g .nil | .d x => g (.d x) | .own k o n => g (.own k o n) | .sub k j => g (.sub k j) | .ptr k o => g (.ptr k o)
  | .sptr k j o => g (.sptr k j o) | .rptr l o => g (.rptr l o) | .tr x => g (.tr x)
def mapL (g : AV → AV) : List AV → List AV
  | [] => []
  | x :: l => mapA g x :: mapL g l
end
theorem mapL_eq (g : AV → AV) : ∀ l, mapL g l = l.map (mapA g)
  | [] => rfl
  | x :: l => by simp only [mapL, List.map_cons, mapL_eq g l]
def leafB : AV → Bool
  | .agg _ => false
  | .tup _ => false
  | _ => true
section
variable {w w' : World} {γ γ' : Labels} {φ φ' : Nat → Nat} {s s' : St} {g : AV → AV}
theorem Rel.map (h : ∀ av v, leafB av = true → Rel w γ φ s av v → Rel w' γ' φ' s' (g av) v) : ∀ (av : AV) (v : Value), Rel w γ φ s av v → Rel w' γ' φ' s' (mapA g av) v := by
  intro av
  refine AV.rec (motive_1 := fun av => ∀ (u : Value), Rel w γ φ s av u → Rel w' γ' φ' s' (mapA g av) u)
    (motive_2 := fun l => ∀ (vs : List Value), RelL w γ φ s l vs → RelL w' γ' φ' s' (mapL g l) vs) ?_ ?_ ?_ ?_ ?_ ?_ ?_ ?_ ?_ ?_ ?_ ?_ ?_ ?_ av
  · intro v hr; exact h _ v rfl hr
  · intro v hr; exact h _ v rfl hr
  · intro v hr; exact h _ v rfl hr
  · intro x v hr; exact h _ v rfl hr
  · intro k o n v hr; exact h _ v rfl hr
  · intro k j v hr; exact h _ v rfl hr
  · intro k o v hr; exact h _ v rfl hr
  · intro k j o v hr; exact h _ v rfl hr
  · intro l o v hr; exact h _ v rfl hr
  · intro x v hr; exact h _ v rfl hr
  · intro l ih v hr
    simp only [mapA, Rel] at hr ⊢
    obtain ⟨vs, e, hl⟩ := hr
    exact ⟨vs, e, ih vs.toList hl⟩
  · intro l ih v hr
    simp only [mapA, Rel] at hr ⊢
    obtain ⟨vs, e, hl⟩ := hr
    exact ⟨vs, e, ih vs.toList hl⟩
  · intro vs hr; simpa only [mapL, RelL] using hr
  · intro x l ihx ihl vs hr
    simp only [mapL, RelL] at hr ⊢
    obtain ⟨v, vs', e, hx, hl⟩ := hr
    exact ⟨v, vs', e, ihx v hx, ihl vs' hl⟩
theorem RelL.map (h : ∀ av v, leafB av = true → Rel w γ φ s av v → Rel w' γ' φ' s' (g av) v) : ∀ (l : List AV) (vs : List Value), RelL w γ φ s l vs → RelL w' γ' φ' s' (mapL g l) vs
  | [], _, hr => by simpa only [mapL, RelL] using hr
  | x :: l, vs, hr => by
    simp only [mapL, RelL] at hr ⊢
    obtain ⟨v, vs', e, hx, hl⟩ := hr
    exact ⟨v, vs', e, Rel.map h x v hx, RelL.map h l vs' hl⟩
end

/-! ### Nobody writes it any more -/
def fzG (k e : Nat) (ls : List D) : AV → AV
  | .own i o n => if i = k then .d (.sl n ((ls.drop o).take (n * e))) else .own i o n
  | .ptr i o => if i = k then .any else .ptr i o
  | .sub i j => if i = k then (match ls[j]? with
    | some x => .d x
    | none => .any) else .sub i j
  | .sptr i j o => if i = k then .any else .sptr i j o
  | .any => .any | .und => .und | .nil => .nil | .d x => .d x | .rptr l o => .rptr l o | .tr x => .tr x | .agg l => .agg l | .tup l => .tup l
/-- Root k is read alone from now on. -/
def frz (k e : Nat) (ls : List D) (σ : Sto) : Sto := (σ.set k none).map (Option.map fun R => { R with cells := mapL (fzG k e ls) R.cells })
theorem at_setNone (σ : Sto) (k i : Nat) : at_ (σ.set k none) i = if i = k then none else at_ σ i := by
  simp only [at_, List.getElem?_set]
  by_cases h : k = i
  · subst h
    simp only [if_true]
    split <;> rfl
  · rw [if_neg h, if_neg (Ne.symm h)]
theorem at_mapCells (σ : Sto) (f : Root → Root) (i : Nat) : at_ (σ.map (Option.map f)) i = (at_ σ i).map f := by
  simp only [at_, List.getElem?_map]
  cases σ[i]? with
  | none => rfl
  | some x => cases x <;> rfl
theorem Wk.freeze {m0 : Nat} (k : Nat) {R : Root} {ls : List D} {e e' : List AV} {σ σ' : Sto} (hk : m0 ≤ k) (hR : at_ σ k = some R) (hc : cellsD R.cells = some ls) (h1 : mapL (fzG k R.e ls) e = e') (h2 : frz k R.e ls σ = σ') : Wk m0 e σ e' σ' := by
  subst h1 h2
  intro γ φ w vs hS hE
  obtain ⟨hlen, hcd⟩ := cellsD_get hc
  let γ' : Labels := fun b => match γ b with
    | .r i p => if i = k then .im else .r i p
    | l => l
  have hat : ∀ i, at_ (frz k R.e ls σ) i = if i = k then none else (at_ σ i).map fun R' => { R' with cells := mapL (fzG k R.e ls) R'.cells } := by
    intro i
    rw [frz, at_mapCells, at_setNone]
    split <;> rfl
  have him : ∀ b, Im w γ b → Im w γ' b := fun b hb => ⟨hb.1, by simp only [γ', hb.2]⟩
  have hk' : ∀ b p, γ b = .r k p → b < w.heap.size ∧ γ' b = .im := fun b p hb => ⟨hS.bound _ _ _ hb, by simp only [γ', hb, if_true]⟩
  have hne : ∀ b i p, γ b = .r i p → i ≠ k → γ' b = .r i p := fun b i p hb hi => by simp only [γ', hb, if_neg hi]
  have hcell : ∀ (j : Nat) (x : D) (v : Value), ls[j]? = some x → (∀ av, R.cells[j]? = some av → CRel w γ φ (at_ σ) k j av v) → Rd w (Im w γ') x v := by
    intro j x v hx hv
    obtain ⟨av, hav, hd⟩ := hcd j x hx
    exact cellD_rd him hk' hd (hv av hav)
  have hleaf : ∀ av v, leafB av = true → Rel w γ φ (at_ σ) av v → Rel w γ' φ (at_ (frz k R.e ls σ)) (fzG k R.e ls av) v := by
    intro av v hlf hr
    cases av with
    | own i o n =>
      simp only [fzG]
      split
      · rename_i hi
        subst hi
        simp only [Rel] at hr ⊢
        obtain ⟨R0, hR0, hr⟩ := hr
        rw [hR] at hR0
        obtain rfl : R = R0 := by simpa using hR0
        simp only [Rd]
        rcases hr with ⟨rfl, rfl, rfl⟩ | ⟨c, cur, T, rfl, hn, hl, hh, _⟩
        · exact ⟨none, 0, rfl, Nat.le_refl _, .inl ⟨rfl, by simp⟩⟩
        · refine ⟨_, c, rfl, hn, .inr ⟨φ i, o, rfl, hk' _ _ hl |> fun h => ⟨h.1, h.2⟩, RdL.of_get fun j x hx => ?_⟩⟩
          have hx' : ls[o + j]? = some x := by
            rw [List.getElem?_take] at hx
            split at hx
            · rwa [List.getElem?_drop] at hx
            · cases hx
          rcases hS.root i R hR with h0 | ⟨cur0, T0, hh0, _, hsz, hcells⟩
          · rw [h0] at hlen
            have : ls = [] := List.eq_nil_of_length_eq_zero (by simpa using hlen)
            rw [this] at hx'
            simp at hx'
          · rw [hh] at hh0
            simp at hh0
            obtain ⟨rfl, _⟩ := hh0
            obtain ⟨av, hav, hd⟩ := hcd _ _ hx'
            obtain ⟨u, hu, hcr⟩ := hcells _ _ hav
            exact ⟨u, cell_heap hh hu, cellD_rd him hk' hd hcr⟩
      · rename_i hi
        simp only [Rel] at hr ⊢
        obtain ⟨R0, hR0, hr⟩ := hr
        refine ⟨_, by rw [hat, if_neg hi, hR0]; rfl, ?_⟩
        rcases hr with hr | ⟨c, cur, T, hv, hn, hl, hh, hcap⟩
        · exact .inl hr
        · exact .inr ⟨c, cur, T, hv, hn, hne _ _ _ hl hi, hh, hcap⟩
    | ptr i o =>
      simp only [fzG]
      split
      · simp only [Rel]
      · rename_i hi
        simp only [Rel] at hr ⊢
        obtain ⟨R0, hR0, hr⟩ := hr
        exact ⟨_, by rw [hat, if_neg hi, hR0]; rfl, hr⟩
    | sub i j =>
      simp only [fzG]
      split
      · rename_i hi
        subst hi
        split
        · rename_i x hx
          simp only [Rel] at hr ⊢
          obtain ⟨R0, x0, cur, T, f, hR0, hx0, hh, hv⟩ := hr
          rw [hR] at hR0
          obtain rfl : R = R0 := by simpa using hR0
          refine hcell j x v hx fun av hav => ?_
          rcases hS.root i R hR with h0 | ⟨cur0, T0, hh0, _, hsz, hcells⟩
          · rw [h0] at hav; simp at hav
          · rw [hh] at hh0
            simp at hh0
            obtain ⟨rfl, _⟩ := hh0
            obtain ⟨u, hu, hcr⟩ := hcells _ _ hav
            rw [hv] at hu
            obtain rfl : v = u := by simpa using hu
            exact hcr
        · simp only [Rel]
      · rename_i hi
        simp only [Rel] at hr ⊢
        obtain ⟨R0, x0, cur, T, f, hR0, hx0, hh, hv⟩ := hr
        exact ⟨_, x0, cur, T, f, by rw [hat, if_neg hi, hR0]; rfl, by simp only [mapL_eq, List.getElem?_map, hx0]; rfl, hh, hv⟩
    | sptr i j o =>
      simp only [fzG]
      split
      · simp only [Rel]
      · rename_i hi
        simp only [Rel] at hr ⊢
        obtain ⟨R0, x0, cur, T, f, b, n, c, hR0, hx0, hh, hv, e⟩ := hr
        exact ⟨_, x0, cur, T, f, b, n, c, by rw [hat, if_neg hi, hR0]; rfl, by simp only [mapL_eq, List.getElem?_map, hx0]; rfl, hh, hv, e⟩
    | any => simp only [fzG, Rel]
    | und => simpa only [fzG, Rel] using hr
    | nil => simpa only [fzG, Rel] using hr
    | d x =>
      simp only [fzG, Rel] at hr ⊢
      exact Rd.mono (fun b hb => ⟨him b hb, rfl⟩) x v hr
    | rptr l o =>
      simp only [fzG, Rel] at hr ⊢
      obtain ⟨b, o', e, hb, hl⟩ := hr
      exact ⟨b, o', e, him b hb, RdL.mono (fun b hb => ⟨him b hb, rfl⟩) l b o' hb hl⟩
    | tr x => simp only [Rel] at hr
    | agg l => cases hlf
    | tup l => cases hlf
  refine ⟨γ', φ, ⟨rfl, rfl, rfl, Nat.le_refl _, fun b _ hn => ⟨rfl, ?_⟩, fun _ cur _ _ h => ⟨cur, h, rfl⟩⟩, ⟨fun b i p hb => ?_, fun i Ri hi => ?_⟩, RelL.map hleaf e vs hE, fun i Ri hi hRi hg => ?_⟩
  · cases hg : γ b with
    | r i p => exact absurd hg (hn i p)
    | _ => simp only [γ', hg]
  · cases hg : γ b with
    | r i' q => exact hS.bound b i' q hg
    | _ => simp only [γ', hg] at hb; cases hb
  · rw [hat] at hi
    split at hi
    · cases hi
    · rename_i hik
      simp only [Option.map_eq_some_iff] at hi
      obtain ⟨R0, hR0, rfl⟩ := hi
      rcases hS.root i R0 hR0 with h0 | ⟨cur, T, hh, hg, hl, hcells⟩
      · exact .inl (by simp [h0, mapL])
      · refine .inr ⟨cur, T, hh, hne _ _ _ hg hik, by simpa [mapL_eq] using hl, fun j av hav => ?_⟩
        simp only [mapL_eq, List.getElem?_map, Option.map_eq_some_iff] at hav
        obtain ⟨av0, h0, rfl⟩ := hav
        obtain ⟨u, hu, hr⟩ := hcells j av0 h0
        refine ⟨u, hu, ?_⟩
        cases av0 with
        | tr x =>
          simp only [CRel, mapA, fzG] at hr ⊢
          exact Tree.mono (by simp) (fun b q _ hb => ⟨hne b i q hb hik, rfl⟩) x u hr
        | _ => exact CRel.of_rel (Rel.map hleaf _ u (show Rel w γ φ (at_ σ) _ u from hr))
  · have hik : i ≠ k := by omega
    exact ⟨⟨rfl, fun hl => hne _ _ _ hl hik⟩, { Ri with cells := mapL (fzG k R.e ls) Ri.cells }, by rw [hat, if_neg hik, hRi]; rfl, hg⟩

/-! ### A slice of a row's own -/
def treD : AV → Option D
  | .d (.sl ..) => none
  | .d x => some x
  | .tr x => some x
  | _ => none
def treL : List AV → Option (List D)
  | [] => some []
  | x :: l => match treD x, treL l with
    | some y, some m => some (y :: m)
    | _, _ => none
theorem treL_get : ∀ {l : List AV} {m : List D}, treL l = some m → m.length = l.length ∧ ∀ (i : Nat) (x : D), m[i]? = some x → ∃ av, l[i]? = some av ∧ treD av = some x
  | [], m, h => by simp only [treL, Option.some.injEq] at h; subst h; simp
  | x :: l, m, h => by
    simp only [treL] at h
    split at h
    · rename_i y m' hy hm
      simp only [Option.some.injEq] at h
      subst h
      obtain ⟨h1, h2⟩ := treL_get hm
      refine ⟨by simp [h1], fun i z hz => ?_⟩
      cases i with
      | zero => simp at hz; subst hz; exact ⟨x, by simp, hy⟩
      | succ i => exact h2 i z (by simpa using hz)
    · cases h
/-- Root k' becomes the slice that cell j of root k holds. -/
def adS (k j k' n : Nat) (l : List D) (σ : Sto) : Sto :=
  ((σ.set k' none).map (Option.map fun R => { R with cells := rnL (fg k') R.cells })).mapIdx fun i x => if i = k then x.map fun R => { R with cells := R.cells.set j (.tr (.sl n l)) } else x
theorem TreeL.of_get {w : World} {γ : Labels} {k : Nat} {p : List Nat} : ∀ {l : List D} {j : Nat} {vs : List Value}, (∀ (i : Nat) (x : D), l[i]? = some x → ∃ v, vs[i]? = some v ∧ Tree w γ k (p ++ [j + i]) x v) → TreeL w γ k p j l vs
  | [], _, _, _ => by simp only [TreeL]
  | x :: l, j, vs, h => by
    simp only [TreeL]
    obtain ⟨v, hv, ht⟩ := h 0 x (by simp)
    cases vs with
    | nil => simp at hv
    | cons v' vs =>
      simp at hv
      subst hv
      refine ⟨v', vs, rfl, by simpa using ht, TreeL.of_get fun i y hy => ?_⟩
      obtain ⟨u, hu, ht⟩ := h (i + 1) y (by simpa using hy)
      exact ⟨u, by simpa using hu, by rwa [show j + 1 + i = j + (i + 1) by omega]⟩
theorem at_adS {k j k' n : Nat} {l : List D} {σ : Sto} (i : Nat) : at_ (adS k j k' n l σ) i = if i = k' then none else (at_ σ i).map fun R => if i = k then { R with cells := (rnL (fg k') R.cells).set j (.tr (.sl n l)) } else { R with cells := rnL (fg k') R.cells } := by
  have h : at_ (adS k j k' n l σ) i = if i = k then (at_ ((σ.set k' none).map (Option.map fun R => { R with cells := rnL (fg k') R.cells })) i).map (fun R => { R with cells := R.cells.set j (.tr (.sl n l)) }) else at_ ((σ.set k' none).map (Option.map fun R => { R with cells := rnL (fg k') R.cells })) i := by
    simp only [adS, at_, List.getElem?_mapIdx]
    by_cases h : i = k
    · simp only [if_pos h]
      cases (List.map (Option.map fun R => { R with cells := rnL (fg k') R.cells }) (σ.set k' none))[i]? with
      | none => rfl
      | some x => cases x <;> rfl
    · simp only [if_neg h]
      cases (List.map (Option.map fun R => { R with cells := rnL (fg k') R.cells }) (σ.set k' none))[i]? with
      | none => rfl
      | some x => rfl
  rw [h, at_mapCells, at_setNone]
  by_cases h1 : i = k'
  · simp [h1]
  · rw [if_neg h1, if_neg h1]
    split
    · cases at_ σ i <;> rfl
    · rfl
theorem Wk.adopt {m0 : Nat} (k j k' n : Nat) {R R' : Root} {l : List D} {e e' : List AV} {σ σ' : Sto} (hm : m0 ≤ k') (hkk : k ≠ k') (hR : at_ σ k = some R) (hR' : at_ σ k' = some R') (hj : R.cells[j]? = some (.own k' 0 n)) (hl : treL R'.cells = some l) (hn : l.length = n * R'.e)
    (h1 : rnL (fg k') e = e') (h2 : adS k j k' n l σ = σ') : Wk m0 e σ e' σ' := by
  subst h1 h2
  intro γ φ w vs hS hE
  obtain ⟨hlen, hget⟩ := treL_get hl
  let γ' : Labels := fun b => match γ b with
    | .r i p => if i = k' then .r k (j :: p) else .r i p
    | l => l
  have hat := @at_adS k j k' n l σ
  have hne : ∀ b i p, γ b = .r i p → i ≠ k' → γ' b = .r i p := fun b i p hb hi => by simp only [γ', hb, if_neg hi]
  have hto : ∀ b q, γ b = .r k' ([] ++ q) → γ' b = .r k ([j] ++ q) := fun b q hb => by simp only [List.nil_append] at hb; simp only [γ', hb, if_true]; rfl
  have hK : Kst γ w γ' w := ⟨rfl, rfl, rfl, Nat.le_refl _, fun b _ hn => ⟨rfl, by
    cases hg : γ b with
    | r i p => exact absurd hg (hn i p)
    | _ => simp only [γ', hg]⟩, fun _ cur _ _ h => ⟨cur, h, rfl⟩⟩
  have hL : LiveR (fg k') w γ φ (at_ σ) w γ' φ (at_ (adS k j k' n l σ)) := by
    intro i i' Ri hi hRi
    obtain ⟨rfl, hik⟩ := fg_some hi
    refine ⟨rfl, if i' = k then { Ri with cells := (rnL (fg k') Ri.cells).set j (.tr (.sl n l)) } else { Ri with cells := rnL (fg k') Ri.cells }, by rw [hat, if_neg hik, hRi]; rfl, by split <;> rfl, by split <;> exact id, fun hlb => hne _ _ _ hlb hik, fun j' x hx => ⟨?_, fun c c' T f T' f' e e' => by rw [e] at e'; simp at e'; rw [e'.1]⟩⟩
    have hx' : (rnL (fg k') Ri.cells)[j']? = some (.tr x) := by rw [rnL_eq, List.getElem?_map, hx]; rfl
    split
    · have hjl : j' < (rnL (fg k') Ri.cells).length := (List.getElem?_eq_some_iff.1 hx').1
      by_cases hjj : j = j'
      · subst hjj
        exact ⟨.sl n l, by simp [hjl]⟩
      · exact ⟨x, by rw [List.getElem?_set, if_neg hjj]; exact hx'⟩
    · exact ⟨x, hx'⟩
  have htr : ∀ v, Rel w γ φ (at_ σ) (.own k' 0 n) v → Tree w γ' k [j] (.sl n l) v := by
    intro v hr
    simp only [Rel] at hr
    obtain ⟨R0, hR0, hr⟩ := hr
    rw [hR'] at hR0
    obtain rfl : R' = R0 := by simpa using hR0
    simp only [Tree]
    rcases hr with ⟨rfl, rfl, _⟩ | ⟨c, cur, T, rfl, hnc, hlb, hh, _⟩
    · exact ⟨none, 0, rfl, Nat.le_refl _, .inl ⟨rfl, rfl, rfl, List.eq_nil_of_length_eq_zero (by rw [hn]; simp)⟩⟩
    · refine ⟨_, c, rfl, hnc, .inr ⟨φ k', cur, T, rfl, hto _ [] (by simpa using hlb), hh, TreeL.of_get fun i x hx => ?_⟩⟩
      obtain ⟨av, hav, hd⟩ := hget i x hx
      rcases hS.root k' R' hR' with h0 | ⟨cur0, T0, hh0, _, hsz, hcells⟩
      · rw [h0] at hav; simp at hav
      · rw [hh] at hh0
        simp at hh0
        obtain ⟨rfl, _⟩ := hh0
        obtain ⟨u, hu, hcr⟩ := hcells i av hav
        refine ⟨u, by simpa using hu, ?_⟩
        rw [Nat.zero_add]
        cases av with
        | tr y =>
          simp only [treD, Option.some.injEq] at hd
          subst hd
          simp only [CRel] at hcr
          exact Tree.to (p := []) (p' := [j]) hto [i] y u hcr
        | d y =>
          cases y with
          | sl n' l' => simp [treD] at hd
          | _ =>
            simp only [treD, Option.some.injEq] at hd
            subst hd
            simp only [CRel, Rel, Rd] at hcr
            subst hcr
            simp only [Tree]
        | _ => simp [treD] at hd
  refine ⟨γ', φ, hK, ⟨fun b i p hb => ?_, fun i Ri hi => ?_⟩, RelL.monoR hK hL e vs hE, fun i Ri hi hRi hg => ?_⟩
  · cases hg : γ b with
    | r i' q => exact hS.bound b i' q hg
    | _ => simp only [γ', hg] at hb; cases hb
  · rw [hat] at hi
    split at hi
    · cases hi
    · rename_i hik
      simp only [Option.map_eq_some_iff] at hi
      obtain ⟨R0, hR0, hRi⟩ := hi
      have hcl : Ri.cells.length = R0.cells.length := by rw [← hRi]; split <;> simp [rnL_eq]
      rcases hS.root i R0 hR0 with h0 | ⟨cur, T, hh, hg, hle, hcells⟩
      · exact .inl (List.eq_nil_of_length_eq_zero (by rw [hcl, h0]; rfl))
      · refine .inr ⟨cur, T, hh, hne _ _ _ hg hik, by rw [hcl]; exact hle, fun j' av hav => ?_⟩
        have hold : ∀ (j' : Nat) (av : AV), (rnL (fg k') R0.cells)[j']? = some av → ∃ v, cur[j']? = some v ∧ CRel w γ' φ (at_ (adS k j k' n l σ)) i j' av v := by
          intro j' av hav
          rw [rnL_eq, List.getElem?_map, Option.map_eq_some_iff] at hav
          obtain ⟨av0, h0, rfl⟩ := hav
          obtain ⟨u, hu, hr⟩ := hcells j' av0 h0
          exact ⟨u, hu, CRel.monoR hK hL (fun b q _ hb => ⟨hne b i q hb hik, rfl⟩) hr⟩
        by_cases hik2 : i = k
        · subst hik2
          rw [if_pos rfl] at hRi
          rw [hR] at hR0
          obtain rfl : R = R0 := by simpa using hR0
          subst hRi
          simp only [List.getElem?_set] at hav
          split at hav
          · rename_i hjj
            subst hjj
            split at hav
            · simp only [Option.some.injEq] at hav
              subst hav
              obtain ⟨v, hv, hr⟩ := hcells j _ hj
              exact ⟨v, hv, htr v hr⟩
            · cases hav
          · exact hold j' av hav
        · rw [if_neg hik2] at hRi
          subst hRi
          exact hold j' av hav
  · have hik : i ≠ k' := by omega
    refine ⟨⟨rfl, fun hl => hne _ _ _ hl hik⟩, if i = k then { Ri with cells := (rnL (fg k') Ri.cells).set j (.tr (.sl n l)) } else { Ri with cells := rnL (fg k') Ri.cells }, by rw [hat, if_neg hik, hRi]; rfl, ?_⟩
    split <;> exact hg

/-! ### A slice taken out of a row -/
def cellT : D → AV
  | .sl n l => .tr (.sl n l)
  | x => .d x
def spG (k j k' n : Nat) : AV → AV
  | .sub i j' => if i = k ∧ j' = j then .own k' 0 n else .sub i j'
  | .sptr i j' o => if i = k ∧ j' = j then .ptr k' o else .sptr i j' o
  | .any => .any | .und => .und | .nil => .nil | .d x => .d x | .rptr l o => .rptr l o | .tr x => .tr x | .own i o n => .own i o n | .ptr i o => .ptr i o | .agg l => .agg l | .tup l => .tup l
/-- The slice that cell j of root k holds becomes a root of its own. -/
def spS (k j n e : Nat) (l : List D) (σ : Sto) : Sto :=
  ((σ.map (Option.map fun R => { R with cells := mapL (spG k j σ.length n) R.cells })).mapIdx fun i x => if i = k then x.map fun R => { R with cells := R.cells.set j (.own σ.length 0 n) } else x) ++ [some ⟨e, false, l.map cellT⟩]
theorem at_spS {k j n e : Nat} {l : List D} {σ : Sto} (i : Nat) : at_ (spS k j n e l σ) i = if i = σ.length then some ⟨e, false, l.map cellT⟩ else
    (at_ σ i).map fun R => if i = k then { R with cells := (mapL (spG k j σ.length n) R.cells).set j (.own σ.length 0 n) } else { R with cells := mapL (spG k j σ.length n) R.cells } := by
  rw [spS, at_append, over_one]
  simp only [List.length_mapIdx, List.length_map]
  by_cases h : i = σ.length
  · subst h; simp [upd]
  · rw [upd_other _ _ h, if_neg h]
    simp only [at_, List.getElem?_mapIdx, List.getElem?_map]
    by_cases h : i = k
    · simp only [if_pos h]
      cases σ[i]? with
      | none => rfl
      | some x => cases x <;> rfl
    · simp only [if_neg h]
      cases σ[i]? with
      | none => rfl
      | some x => cases x <;> rfl
theorem Wk.split {m0 : Nat} (k j z n : Nat) {R : Root} {l : List D} {e e' : List AV} {σ σ' : Sto} (hm : m0 ≤ σ.length) (hR : at_ σ k = some R) (hj : R.cells[j]? = some (.tr (.sl n l)))
    (h1 : mapL (spG k j σ.length n) e = e') (h2 : spS k j n z l σ = σ') : Wk m0 e σ e' σ' := by
  subst h1 h2
  intro γ φ w vs hS hE
  have hklt := at_lt hR
  have hkne : k ≠ σ.length := by omega
  have hdead : at_ σ σ.length = none := by simp [at_]
  rcases hS.root k R hR with h0 | ⟨curk, Tk, hhk, hgk, hlk, hcellsk⟩
  · simp [h0] at hj
  obtain ⟨vj, hvj, htj⟩ := hcellsk j _ hj
  simp only [CRel, Tree] at htj
  obtain ⟨A, c, rfl, hnc, htj⟩ := htj
  let bj : Nat := match A with
    | some a => a.block
    | none => 0
  let γ' : Labels := fun b => match γ b with
    | .r i (q :: p) => if i = k ∧ q = j then .r σ.length p else .r i (q :: p)
    | l => l
  let φ' : Nat → Nat := upd φ σ.length bj
  have hat := @at_spS k j n z l σ
  have hγ0 : ∀ b i, γ b = .r i [] → γ' b = .r i [] := fun b i hb => by simp only [γ', hb]
  have hγj : ∀ b q, γ b = .r k ([j] ++ q) → γ' b = .r σ.length ([] ++ q) := fun b q hb => by
    simp only [List.cons_append, List.nil_append] at hb ⊢
    simp only [γ', hb, and_self, if_true]
  have hγn : ∀ b i q p, γ b = .r i (q :: p) → ¬ (i = k ∧ q = j) → γ' b = .r i (q :: p) := fun b i q p hb h => by simp only [γ', hb, if_neg h]
  have hφ : ∀ i R, at_ σ i = some R → φ' i = φ i := fun i R h => upd_other _ _ (by have := at_lt h; omega)
  have him : ∀ b, Im w γ b → Im w γ' b := fun b hb => ⟨hb.1, by simp only [γ', hb.2]⟩
  have hold : ∀ i Ri, at_ σ i = some Ri → ∃ R', at_ (spS k j n z l σ) i = some R' ∧ R'.e = Ri.e ∧ R'.g = Ri.g ∧ R'.cells.length = Ri.cells.length ∧ ∀ (j' : Nat) (x : D), ¬ (i = k ∧ j' = j) → Ri.cells[j']? = some (.tr x) → R'.cells[j']? = some (.tr x) := by
    intro i Ri hi
    have hne : i ≠ σ.length := by have := at_lt hi; omega
    refine ⟨if i = k then { Ri with cells := (mapL (spG k j σ.length n) Ri.cells).set j (.own σ.length 0 n) } else { Ri with cells := mapL (spG k j σ.length n) Ri.cells }, by rw [hat, if_neg hne, hi]; rfl, by split <;> rfl, by split <;> rfl, by split <;> simp [mapL_eq], fun j' x hc hx => ?_⟩
    have hx' : (mapL (spG k j σ.length n) Ri.cells)[j']? = some (.tr x) := by rw [mapL_eq, List.getElem?_map, hx]; rfl
    split
    · rename_i hik
      rw [List.getElem?_set, if_neg (fun e => hc ⟨hik, e.symm⟩)]
      exact hx'
    · exact hx'
  have hnew : at_ (spS k j n z l σ) σ.length = some ⟨z, false, l.map cellT⟩ := by rw [hat, if_pos rfl]
  have hown : Rel w γ' φ' (at_ (spS k j n z l σ)) (.own σ.length 0 n) (.slice A n c) := by
    simp only [Rel]
    refine ⟨_, hnew, ?_⟩
    rcases htj with ⟨rfl, rfl, rfl, _⟩ | ⟨b, cur, T, rfl, hg, hh, _⟩
    · exact .inl ⟨rfl, rfl, trivial⟩
    · have hb : φ' σ.length = b := upd_same _ _ _
      exact .inr ⟨c, cur, T, by rw [hb], hnc, by rw [hb]; exact hγj b [] hg, by rw [hb]; exact hh, fun h => by cases h⟩
  have hleaf : ∀ av v, leafB av = true → Rel w γ φ (at_ σ) av v → Rel w γ' φ' (at_ (spS k j n z l σ)) (spG k j σ.length n av) v := by
    intro av v hlf hr
    cases av with
    | own i o m =>
      simp only [spG, Rel] at hr ⊢
      obtain ⟨R0, hR0, hr⟩ := hr
      obtain ⟨R', h1, h2, h3, h4, _⟩ := hold i R0 hR0
      refine ⟨R', h1, ?_⟩
      rcases hr with hr | ⟨c, cur, T, hv, hn, hl, hh, hcap⟩
      · exact .inl hr
      · rw [hφ i R0 hR0]
        exact .inr ⟨c, cur, T, hv, hn, hγ0 _ _ hl, hh, fun h0 => by rw [h2]; exact hcap (h3 ▸ h0)⟩
    | ptr i o =>
      simp only [spG, Rel] at hr ⊢
      obtain ⟨R0, hR0, hr⟩ := hr
      obtain ⟨R', h1, _⟩ := hold i R0 hR0
      exact ⟨R', h1, by rw [hφ i R0 hR0]; exact hr⟩
    | sub i j' =>
      simp only [spG]
      split
      · rename_i hij
        obtain ⟨rfl, rfl⟩ := hij
        simp only [Rel] at hr
        obtain ⟨R0, x0, cur, T, f, hR0, hx0, hh, hv⟩ := hr
        rw [hhk] at hh
        simp at hh
        obtain ⟨rfl, _⟩ := hh
        rw [hvj] at hv
        obtain rfl : Value.slice A n c = v := by simpa using hv
        exact hown
      · rename_i hij
        simp only [Rel] at hr ⊢
        obtain ⟨R0, x0, cur, T, f, hR0, hx0, hh, hv⟩ := hr
        obtain ⟨R', h1, _, _, _, h5⟩ := hold i R0 hR0
        exact ⟨R', x0, cur, T, f, h1, h5 _ _ hij hx0, by rw [hφ i R0 hR0]; exact hh, hv⟩
    | sptr i j' o =>
      simp only [spG]
      split
      · rename_i hij
        obtain ⟨rfl, rfl⟩ := hij
        simp only [Rel] at hr ⊢
        obtain ⟨R0, x0, cur, T, f, b, n', c', hR0, hx0, hh, hv, e⟩ := hr
        rw [hhk] at hh
        simp at hh
        obtain ⟨rfl, _⟩ := hh
        rw [hvj] at hv
        simp at hv
        obtain ⟨rfl, _, _⟩ := hv
        exact ⟨_, hnew, by rw [show φ' σ.length = b from upd_same _ _ _]; exact e⟩
      · rename_i hij
        simp only [Rel] at hr ⊢
        obtain ⟨R0, x0, cur, T, f, b, n', c', hR0, hx0, hh, hv, e⟩ := hr
        obtain ⟨R', h1, _, _, _, h5⟩ := hold i R0 hR0
        exact ⟨R', x0, cur, T, f, b, n', c', h1, h5 _ _ hij hx0, by rw [hφ i R0 hR0]; exact hh, hv, e⟩
    | any => simp only [spG, Rel]
    | und => simpa only [spG, Rel] using hr
    | nil => simpa only [spG, Rel] using hr
    | d x =>
      simp only [spG, Rel] at hr ⊢
      exact Rd.mono (fun b hb => ⟨him b hb, rfl⟩) x v hr
    | rptr l o =>
      simp only [spG, Rel] at hr ⊢
      obtain ⟨b, o', e, hb, hl⟩ := hr
      exact ⟨b, o', e, him b hb, RdL.mono (fun b hb => ⟨him b hb, rfl⟩) l b o' hb hl⟩
    | tr x => simp only [Rel] at hr
    | agg l => cases hlf
    | tup l => cases hlf
  refine ⟨γ', φ', ⟨rfl, rfl, rfl, Nat.le_refl _, fun b _ hn => ⟨rfl, ?_⟩, fun _ cur _ _ h => ⟨cur, h, rfl⟩⟩, ⟨fun b i p hb => ?_, fun i Ri hi => ?_⟩, RelL.map hleaf e vs hE, fun i Ri hi hRi hg => ?_⟩
  · cases hg : γ b with
    | r i p => exact absurd hg (hn i p)
    | _ => simp only [γ', hg]
  · cases hg : γ b with
    | r i' q => exact hS.bound b i' q hg
    | _ => simp only [γ', hg] at hb; cases hb
  · rw [hat] at hi
    split at hi
    · rename_i hil
      subst hil
      simp only [Option.some.injEq] at hi
      subst hi
      rcases htj with ⟨rfl, rfl, rfl, rfl⟩ | ⟨b, cur, T, rfl, hg, hh, hl⟩
      · exact .inl rfl
      · have hb : φ' σ.length = b := upd_same _ _ _
        refine .inr ⟨cur, T, by rw [hb]; exact hh, by rw [hb]; exact hγj b [] hg, ?_, fun i av hav => ?_⟩
        · rw [List.length_map]
          by_cases hle : l.length ≤ cur.size
          · exact hle
          · have hlt : cur.size < l.length := by omega
            obtain ⟨u, hu, _⟩ := TreeL.get hl (i := cur.size) (List.getElem?_eq_getElem hlt)
            simp at hu
        · rw [List.getElem?_map, Option.map_eq_some_iff] at hav
          obtain ⟨x, hx, rfl⟩ := hav
          obtain ⟨u, hu, ht⟩ := TreeL.get hl hx
          refine ⟨u, by simpa using hu, ?_⟩
          cases x with
          | sl n' l' =>
            simp only [cellT, CRel]
            rw [Nat.zero_add] at ht
            exact Tree.to (p := [j]) (p' := []) hγj [i] _ u ht
          | _ =>
            simp only [Tree] at ht
            subst ht
            simp only [cellT, CRel, Rel, Rd]
    · rename_i hil
      simp only [Option.map_eq_some_iff] at hi
      obtain ⟨R0, hR0, hRi⟩ := hi
      have hcl : Ri.cells.length = R0.cells.length := by rw [← hRi]; split <;> simp [mapL_eq]
      rcases hS.root i R0 hR0 with h0 | ⟨cur, T, hh, hg, hle, hcells⟩
      · exact .inl (List.eq_nil_of_length_eq_zero (by rw [hcl, h0]; rfl))
      · refine .inr ⟨cur, T, by rw [hφ i R0 hR0]; exact hh, by rw [hφ i R0 hR0]; exact hγ0 _ _ hg, by rw [hcl]; exact hle, fun j' av hav => ?_⟩
        have hold' : ∀ (j' : Nat) (av : AV), ¬ (i = k ∧ j' = j) → (mapL (spG k j σ.length n) R0.cells)[j']? = some av → ∃ v, cur[j']? = some v ∧ CRel w γ' φ' (at_ (spS k j n z l σ)) i j' av v := by
          intro j' av hc hav
          rw [mapL_eq, List.getElem?_map, Option.map_eq_some_iff] at hav
          obtain ⟨av0, h0, rfl⟩ := hav
          obtain ⟨u, hu, hr⟩ := hcells j' av0 h0
          refine ⟨u, hu, ?_⟩
          cases av0 with
          | tr x =>
            simp only [CRel, mapA, spG] at hr ⊢
            have := Tree.to (γ' := γ') (p := [j']) (p' := [j']) (fun b q hb => hγn b i j' q (by simpa using hb) hc) [] x u (by simpa using hr)
            simpa using this
          | _ => exact CRel.of_rel (Rel.map hleaf _ u (show Rel w γ φ (at_ σ) _ u from hr))
        by_cases hik2 : i = k
        · subst hik2
          rw [if_pos rfl] at hRi
          rw [hR] at hR0
          obtain rfl : R = R0 := by simpa using hR0
          rw [hhk] at hh
          simp at hh
          obtain ⟨rfl, _⟩ := hh
          subst hRi
          simp only [List.getElem?_set] at hav
          split at hav
          · rename_i hjj
            subst hjj
            split at hav
            · simp only [Option.some.injEq] at hav
              subst hav
              exact ⟨_, hvj, CRel.of_rel hown⟩
            · cases hav
          · rename_i hjj
            exact hold' j' av (fun h => hjj h.2.symm) hav
        · rw [if_neg hik2] at hRi
          subst hRi
          exact hold' j' av (fun h => hik2 h.1) hav
  · obtain ⟨R', h1, _, h3, _⟩ := hold i Ri hRi
    exact ⟨⟨hφ i Ri hRi, fun hl => hγ0 _ _ hl⟩, R', h1, h3.trans hg⟩

theorem beqS (a b : Nat) : ((some a : Option Nat) == some b) = decide (a = b) := by rw [Option.some_beq_some]; rfl
theorem beqN (b : Nat) : ((none : Option Nat) == some b) = false := rfl
theorem ite_min (a b : Int) : (if b < a then b else a) = min a b := by rw [Int.min_def]; split <;> split <;> omega
theorem ite_max (a b : Int) : (if a < b then b else a) = max a b := by rw [Int.max_def]; split <;> split <;> omega
attribute [go_sem] ite_min ite_max renS mapA mapL fzG frz treD treL adS cellT spG spS cgA cgL cgIn cgNu cgRoot cgGo cgNew cgOk beqS beqN List.contains_nil List.contains_cons cellsD cellD Option.some.injEq List.mapIdx_cons List.mapIdx_nil List.drop_succ_cons Bool.and_false Bool.false_and Bool.or_false Bool.and_true Bool.true_and
/-! ### Environments in pieces of sixteen -/
def ch (a0 a1 a2 a3 a4 a5 a6 a7 a8 a9 a10 a11 a12 a13 a14 a15 : AV) (l : List AV) : List AV := a0 :: a1 :: a2 :: a3 :: a4 :: a5 :: a6 :: a7 :: a8 :: a9 :: a10 :: a11 :: a12 :: a13 :: a14 :: a15 :: l
section
variable {a0 a1 a2 a3 a4 a5 a6 a7 a8 a9 a10 a11 a12 a13 a14 a15 v : AV} {l : List AV} {n : Nat}
theorem getD_ch (x : AV) : (ch a0 a1 a2 a3 a4 a5 a6 a7 a8 a9 a10 a11 a12 a13 a14 a15 l).getD (n + 16) x = l.getD n x := nr rfl
theorem getD_ch0 (x : AV) : (ch a0 a1 a2 a3 a4 a5 a6 a7 a8 a9 a10 a11 a12 a13 a14 a15 l).getD 0 x = a0 := nr rfl
theorem getD_ch1 (x : AV) : (ch a0 a1 a2 a3 a4 a5 a6 a7 a8 a9 a10 a11 a12 a13 a14 a15 l).getD 1 x = a1 := nr rfl
theorem getD_ch2 (x : AV) : (ch a0 a1 a2 a3 a4 a5 a6 a7 a8 a9 a10 a11 a12 a13 a14 a15 l).getD 2 x = a2 := nr rfl
theorem getD_ch3 (x : AV) : (ch a0 a1 a2 a3 a4 a5 a6 a7 a8 a9 a10 a11 a12 a13 a14 a15 l).getD 3 x = a3 := nr rfl
theorem getD_ch4 (x : AV) : (ch a0 a1 a2 a3 a4 a5 a6 a7 a8 a9 a10 a11 a12 a13 a14 a15 l).getD 4 x = a4 := nr rfl
theorem getD_ch5 (x : AV) : (ch a0 a1 a2 a3 a4 a5 a6 a7 a8 a9 a10 a11 a12 a13 a14 a15 l).getD 5 x = a5 := nr rfl
theorem getD_ch6 (x : AV) : (ch a0 a1 a2 a3 a4 a5 a6 a7 a8 a9 a10 a11 a12 a13 a14 a15 l).getD 6 x = a6 := nr rfl
theorem getD_ch7 (x : AV) : (ch a0 a1 a2 a3 a4 a5 a6 a7 a8 a9 a10 a11 a12 a13 a14 a15 l).getD 7 x = a7 := nr rfl
theorem getD_ch8 (x : AV) : (ch a0 a1 a2 a3 a4 a5 a6 a7 a8 a9 a10 a11 a12 a13 a14 a15 l).getD 8 x = a8 := nr rfl
theorem getD_ch9 (x : AV) : (ch a0 a1 a2 a3 a4 a5 a6 a7 a8 a9 a10 a11 a12 a13 a14 a15 l).getD 9 x = a9 := nr rfl
theorem getD_ch10 (x : AV) : (ch a0 a1 a2 a3 a4 a5 a6 a7 a8 a9 a10 a11 a12 a13 a14 a15 l).getD 10 x = a10 := nr rfl
theorem getD_ch11 (x : AV) : (ch a0 a1 a2 a3 a4 a5 a6 a7 a8 a9 a10 a11 a12 a13 a14 a15 l).getD 11 x = a11 := nr rfl
theorem getD_ch12 (x : AV) : (ch a0 a1 a2 a3 a4 a5 a6 a7 a8 a9 a10 a11 a12 a13 a14 a15 l).getD 12 x = a12 := nr rfl
theorem getD_ch13 (x : AV) : (ch a0 a1 a2 a3 a4 a5 a6 a7 a8 a9 a10 a11 a12 a13 a14 a15 l).getD 13 x = a13 := nr rfl
theorem getD_ch14 (x : AV) : (ch a0 a1 a2 a3 a4 a5 a6 a7 a8 a9 a10 a11 a12 a13 a14 a15 l).getD 14 x = a14 := nr rfl
theorem getD_ch15 (x : AV) : (ch a0 a1 a2 a3 a4 a5 a6 a7 a8 a9 a10 a11 a12 a13 a14 a15 l).getD 15 x = a15 := nr rfl
theorem set_ch : (ch a0 a1 a2 a3 a4 a5 a6 a7 a8 a9 a10 a11 a12 a13 a14 a15 l).set (n + 16) v = ch a0 a1 a2 a3 a4 a5 a6 a7 a8 a9 a10 a11 a12 a13 a14 a15 (l.set n v) := nr rfl
theorem set_ch0 : (ch a0 a1 a2 a3 a4 a5 a6 a7 a8 a9 a10 a11 a12 a13 a14 a15 l).set 0 v = ch v a1 a2 a3 a4 a5 a6 a7 a8 a9 a10 a11 a12 a13 a14 a15 l := nr rfl
theorem set_ch1 : (ch a0 a1 a2 a3 a4 a5 a6 a7 a8 a9 a10 a11 a12 a13 a14 a15 l).set 1 v = ch a0 v a2 a3 a4 a5 a6 a7 a8 a9 a10 a11 a12 a13 a14 a15 l := nr rfl
theorem set_ch2 : (ch a0 a1 a2 a3 a4 a5 a6 a7 a8 a9 a10 a11 a12 a13 a14 a15 l).set 2 v = ch a0 a1 v a3 a4 a5 a6 a7 a8 a9 a10 a11 a12 a13 a14 a15 l := nr rfl
theorem set_ch3 : (ch a0 a1 a2 a3 a4 a5 a6 a7 a8 a9 a10 a11 a12 a13 a14 a15 l).set 3 v = ch a0 a1 a2 v a4 a5 a6 a7 a8 a9 a10 a11 a12 a13 a14 a15 l := nr rfl
theorem set_ch4 : (ch a0 a1 a2 a3 a4 a5 a6 a7 a8 a9 a10 a11 a12 a13 a14 a15 l).set 4 v = ch a0 a1 a2 a3 v a5 a6 a7 a8 a9 a10 a11 a12 a13 a14 a15 l := nr rfl
theorem set_ch5 : (ch a0 a1 a2 a3 a4 a5 a6 a7 a8 a9 a10 a11 a12 a13 a14 a15 l).set 5 v = ch a0 a1 a2 a3 a4 v a6 a7 a8 a9 a10 a11 a12 a13 a14 a15 l := nr rfl
theorem set_ch6 : (ch a0 a1 a2 a3 a4 a5 a6 a7 a8 a9 a10 a11 a12 a13 a14 a15 l).set 6 v = ch a0 a1 a2 a3 a4 a5 v a7 a8 a9 a10 a11 a12 a13 a14 a15 l := nr rfl
theorem set_ch7 : (ch a0 a1 a2 a3 a4 a5 a6 a7 a8 a9 a10 a11 a12 a13 a14 a15 l).set 7 v = ch a0 a1 a2 a3 a4 a5 a6 v a8 a9 a10 a11 a12 a13 a14 a15 l := nr rfl
theorem set_ch8 : (ch a0 a1 a2 a3 a4 a5 a6 a7 a8 a9 a10 a11 a12 a13 a14 a15 l).set 8 v = ch a0 a1 a2 a3 a4 a5 a6 a7 v a9 a10 a11 a12 a13 a14 a15 l := nr rfl
theorem set_ch9 : (ch a0 a1 a2 a3 a4 a5 a6 a7 a8 a9 a10 a11 a12 a13 a14 a15 l).set 9 v = ch a0 a1 a2 a3 a4 a5 a6 a7 a8 v a10 a11 a12 a13 a14 a15 l := nr rfl
theorem set_ch10 : (ch a0 a1 a2 a3 a4 a5 a6 a7 a8 a9 a10 a11 a12 a13 a14 a15 l).set 10 v = ch a0 a1 a2 a3 a4 a5 a6 a7 a8 a9 v a11 a12 a13 a14 a15 l := nr rfl
theorem set_ch11 : (ch a0 a1 a2 a3 a4 a5 a6 a7 a8 a9 a10 a11 a12 a13 a14 a15 l).set 11 v = ch a0 a1 a2 a3 a4 a5 a6 a7 a8 a9 a10 v a12 a13 a14 a15 l := nr rfl
theorem set_ch12 : (ch a0 a1 a2 a3 a4 a5 a6 a7 a8 a9 a10 a11 a12 a13 a14 a15 l).set 12 v = ch a0 a1 a2 a3 a4 a5 a6 a7 a8 a9 a10 a11 v a13 a14 a15 l := nr rfl
theorem set_ch13 : (ch a0 a1 a2 a3 a4 a5 a6 a7 a8 a9 a10 a11 a12 a13 a14 a15 l).set 13 v = ch a0 a1 a2 a3 a4 a5 a6 a7 a8 a9 a10 a11 a12 v a14 a15 l := nr rfl
theorem set_ch14 : (ch a0 a1 a2 a3 a4 a5 a6 a7 a8 a9 a10 a11 a12 a13 a14 a15 l).set 14 v = ch a0 a1 a2 a3 a4 a5 a6 a7 a8 a9 a10 a11 a12 a13 v a15 l := nr rfl
theorem set_ch15 : (ch a0 a1 a2 a3 a4 a5 a6 a7 a8 a9 a10 a11 a12 a13 a14 a15 l).set 15 v = ch a0 a1 a2 a3 a4 a5 a6 a7 a8 a9 a10 a11 a12 a13 a14 v l := nr rfl
theorem ch_rep : List.replicate (n + 16) AV.und = ch AV.und AV.und AV.und AV.und AV.und AV.und AV.und AV.und AV.und AV.und AV.und AV.und AV.und AV.und AV.und AV.und (List.replicate n .und) := nr rfl
theorem ch_init1 : [a0] ++ List.replicate (n + 15) AV.und = ch a0 AV.und AV.und AV.und AV.und AV.und AV.und AV.und AV.und AV.und AV.und AV.und AV.und AV.und AV.und AV.und (List.replicate n .und) := nr rfl
theorem ch_init2 : [a0, a1] ++ List.replicate (n + 14) AV.und = ch a0 a1 AV.und AV.und AV.und AV.und AV.und AV.und AV.und AV.und AV.und AV.und AV.und AV.und AV.und AV.und (List.replicate n .und) := nr rfl
theorem ch_init3 : [a0, a1, a2] ++ List.replicate (n + 13) AV.und = ch a0 a1 a2 AV.und AV.und AV.und AV.und AV.und AV.und AV.und AV.und AV.und AV.und AV.und AV.und AV.und (List.replicate n .und) := nr rfl
theorem ch_init4 : [a0, a1, a2, a3] ++ List.replicate (n + 12) AV.und = ch a0 a1 a2 a3 AV.und AV.und AV.und AV.und AV.und AV.und AV.und AV.und AV.und AV.und AV.und AV.und (List.replicate n .und) := nr rfl
theorem ch_init5 : [a0, a1, a2, a3, a4] ++ List.replicate (n + 11) AV.und = ch a0 a1 a2 a3 a4 AV.und AV.und AV.und AV.und AV.und AV.und AV.und AV.und AV.und AV.und AV.und (List.replicate n .und) := nr rfl
theorem ch_init6 : [a0, a1, a2, a3, a4, a5] ++ List.replicate (n + 10) AV.und = ch a0 a1 a2 a3 a4 a5 AV.und AV.und AV.und AV.und AV.und AV.und AV.und AV.und AV.und AV.und (List.replicate n .und) := nr rfl
theorem ch_init7 : [a0, a1, a2, a3, a4, a5, a6] ++ List.replicate (n + 9) AV.und = ch a0 a1 a2 a3 a4 a5 a6 AV.und AV.und AV.und AV.und AV.und AV.und AV.und AV.und AV.und (List.replicate n .und) := nr rfl
theorem ch_init8 : [a0, a1, a2, a3, a4, a5, a6, a7] ++ List.replicate (n + 8) AV.und = ch a0 a1 a2 a3 a4 a5 a6 a7 AV.und AV.und AV.und AV.und AV.und AV.und AV.und AV.und (List.replicate n .und) := nr rfl
theorem rnL_ch (ρ : Nat → Option Nat) : rnL ρ (ch a0 a1 a2 a3 a4 a5 a6 a7 a8 a9 a10 a11 a12 a13 a14 a15 l) = ch (rn ρ a0) (rn ρ a1) (rn ρ a2) (rn ρ a3) (rn ρ a4) (rn ρ a5) (rn ρ a6) (rn ρ a7) (rn ρ a8) (rn ρ a9) (rn ρ a10) (rn ρ a11) (rn ρ a12) (rn ρ a13) (rn ρ a14) (rn ρ a15) (rnL ρ l) := nr rfl
theorem cgL_ch (gv : List Nat) (M : List Nat) : cgL gv M (ch a0 a1 a2 a3 a4 a5 a6 a7 a8 a9 a10 a11 a12 a13 a14 a15 l) = ch (cgA gv M a0) (cgA gv M a1) (cgA gv M a2) (cgA gv M a3) (cgA gv M a4) (cgA gv M a5) (cgA gv M a6) (cgA gv M a7) (cgA gv M a8) (cgA gv M a9) (cgA gv M a10) (cgA gv M a11) (cgA gv M a12) (cgA gv M a13) (cgA gv M a14) (cgA gv M a15) (cgL gv M l) := nr rfl
theorem mapL_ch (g : AV → AV) : mapL g (ch a0 a1 a2 a3 a4 a5 a6 a7 a8 a9 a10 a11 a12 a13 a14 a15 l) = ch (mapA g a0) (mapA g a1) (mapA g a2) (mapA g a3) (mapA g a4) (mapA g a5) (mapA g a6) (mapA g a7) (mapA g a8) (mapA g a9) (mapA g a10) (mapA g a11) (mapA g a12) (mapA g a13) (mapA g a14) (mapA g a15) (mapL g l) := nr rfl
theorem keepF_ch (live : List Nat) (m i : Nat) : keepF live m i (ch a0 a1 a2 a3 a4 a5 a6 a7 a8 a9 a10 a11 a12 a13 a14 a15 l) = ch (if live.contains (i + 0) then rn (cut m) a0 else .any) (if live.contains (i + 1) then rn (cut m) a1 else .any) (if live.contains (i + 2) then rn (cut m) a2 else .any) (if live.contains (i + 3) then rn (cut m) a3 else .any) (if live.contains (i + 4) then rn (cut m) a4 else .any) (if live.contains (i + 5) then rn (cut m) a5 else .any) (if live.contains (i + 6) then rn (cut m) a6 else .any) (if live.contains (i + 7) then rn (cut m) a7 else .any) (if live.contains (i + 8) then rn (cut m) a8 else .any) (if live.contains (i + 9) then rn (cut m) a9 else .any) (if live.contains (i + 10) then rn (cut m) a10 else .any) (if live.contains (i + 11) then rn (cut m) a11 else .any) (if live.contains (i + 12) then rn (cut m) a12 else .any) (if live.contains (i + 13) then rn (cut m) a13 else .any) (if live.contains (i + 14) then rn (cut m) a14 else .any) (if live.contains (i + 15) then rn (cut m) a15 else .any) (keepF live m (i + 16) l) := nr rfl
theorem keepG_ch (live : List Nat) (ρ : Nat → Option Nat) (i : Nat) : keepG live ρ i (ch a0 a1 a2 a3 a4 a5 a6 a7 a8 a9 a10 a11 a12 a13 a14 a15 l) = ch (if live.contains (i + 0) then rn ρ a0 else .any) (if live.contains (i + 1) then rn ρ a1 else .any) (if live.contains (i + 2) then rn ρ a2 else .any) (if live.contains (i + 3) then rn ρ a3 else .any) (if live.contains (i + 4) then rn ρ a4 else .any) (if live.contains (i + 5) then rn ρ a5 else .any) (if live.contains (i + 6) then rn ρ a6 else .any) (if live.contains (i + 7) then rn ρ a7 else .any) (if live.contains (i + 8) then rn ρ a8 else .any) (if live.contains (i + 9) then rn ρ a9 else .any) (if live.contains (i + 10) then rn ρ a10 else .any) (if live.contains (i + 11) then rn ρ a11 else .any) (if live.contains (i + 12) then rn ρ a12 else .any) (if live.contains (i + 13) then rn ρ a13 else .any) (if live.contains (i + 14) then rn ρ a14 else .any) (if live.contains (i + 15) then rn ρ a15 else .any) (keepG live ρ (i + 16) l) := nr rfl
end
attribute [go_sem] getD_ch getD_ch0 getD_ch1 getD_ch2 getD_ch3 getD_ch4 getD_ch5 getD_ch6 getD_ch7 getD_ch8 getD_ch9 getD_ch10 getD_ch11 getD_ch12 getD_ch13 getD_ch14 getD_ch15 set_ch set_ch0 set_ch1 set_ch2 set_ch3 set_ch4 set_ch5 set_ch6 set_ch7 set_ch8 set_ch9 set_ch10 set_ch11 set_ch12 set_ch13 set_ch14 set_ch15 rnL_ch cgL_ch mapL_ch
end Go.Lift

/-
  Plain facts on lists of integers; no program in sight. No condition.
-/

namespace Go.Proofs.Ytjncdanegoileaa.Plain

theorem set_take_rep (xs : List Int) (n k : Nat) (z : Int) (hl : xs.length = n) (hk : k < n) :
    (xs.take k ++ List.replicate (n - k) z).set k (xs.getD k 0) = xs.take (k + 1) ++ List.replicate (n - (k + 1)) z := by
  apply List.ext_getElem (by simp; omega)
  intro j h1 h2
  simp only [List.getElem_set, List.getElem_append, List.getElem_take, List.getElem_replicate, List.length_take, List.getD_eq_getElem?_getD]
  simp at h1 h2
  have hkl : k < xs.length := by omega
  by_cases e : k = j
  · subst e
    rw [if_pos rfl, dif_pos (by omega)]
    simp [List.getElem?_eq_getElem hkl]
  · rw [if_neg e]
    by_cases hj : j < k
    · rw [dif_pos (by omega), dif_pos (by omega)]
    · rw [dif_neg (by omega), dif_neg (by omega)]

/-! ### Sizes -/

/-- The product of dimensions. -/
def prodI (ds : List Int) : Int := ds.foldl (· * ·) 1
theorem foldl_mul (ds : List Int) (a : Int) : ds.foldl (· * ·) a = a * prodI ds := by
  unfold prodI
  induction ds generalizing a with
  | nil => simp
  | cons d ds ih => rw [List.foldl_cons, List.foldl_cons, ih (a * d), ih (1 * d), Int.one_mul, Int.mul_assoc]
theorem prodI_nil : prodI [] = 1 := rfl
theorem prodI_cons (d : Int) (ds : List Int) : prodI (d :: ds) = d * prodI ds := by
  show List.foldl _ (1 * d) ds = _
  rw [foldl_mul, Int.one_mul]
theorem prodI_append (a b : List Int) : prodI (a ++ b) = prodI a * prodI b := by
  unfold prodI
  rw [List.foldl_append, foldl_mul b]; rfl
theorem prodI_take_succ (ds : List Int) (k : Nat) (h : k < ds.length) : prodI (ds.take (k + 1)) = prodI (ds.take k) * ds.getD k 0 := by
  rw [List.take_succ_eq_append_getElem h, prodI_append, prodI_cons, prodI_nil, Int.mul_one]
  simp [List.getElem?_eq_getElem h]
theorem prodI_pos (ds : List Int) (h : ∀ d ∈ ds, 1 ≤ d) : 1 ≤ prodI ds := by
  induction ds with
  | nil => simp [prodI]
  | cons d ds ih =>
    rw [prodI_cons]
    have h1 := h d (by simp)
    have h2 := ih (fun x hx => h x (by simp [hx]))
    have : 0 < d * prodI ds := Int.mul_pos (by omega) (by omega)
    omega
theorem prodI_take_le (ds : List Int) (k : Nat) (h : ∀ d ∈ ds, 1 ≤ d) : prodI (ds.take k) ≤ prodI ds := by
  have e : prodI ds = prodI (ds.take k) * prodI (ds.drop k) := by rw [← prodI_append, List.take_append_drop]
  have h1 := prodI_pos (ds.take k) (fun d hd => h d (List.mem_of_mem_take hd))
  have h2 := prodI_pos (ds.drop k) (fun d hd => h d (List.mem_of_mem_drop hd))
  rw [e]
  have : prodI (ds.take k) * 1 ≤ prodI (ds.take k) * prodI (ds.drop k) := Int.mul_le_mul_of_nonneg_left h2 (by omega)
  omega

/-- The axis at place k is right. -/
def axAt (ls ds : List Int) (k : Nat) : Prop := 0 ≤ ls.getD k 0 ∧ ls.getD k 0 ≤ 99 ∧ 1 ≤ ds.getD k 0 ∧ ds.getD k 0 ≤ 8 ∧ ls.getD k 0 ∉ ls.take k
instance (ls ds : List Int) (k : Nat) : Decidable (axAt ls ds k) := by unfold axAt; infer_instance
/-- Labels and dimensions are right. -/
def axOk (ls ds : List Int) : Prop := ls.length ≤ 12 ∧ ls.length = ds.length ∧ ∀ k, k < ls.length → axAt ls ds k
instance (ls ds : List Int) : Decidable (axOk ls ds) := by unfold axOk; infer_instance
theorem axOk.dim {ls ds : List Int} (h : axOk ls ds) : ∀ d ∈ ds, 1 ≤ d ∧ d ≤ 8 := by
  intro d hd
  obtain ⟨k, hk, e⟩ := List.getElem_of_mem hd
  have h3 := h.2.2 k (by rw [h.2.1]; exact hk)
  unfold axAt at h3
  rw [show ds.getD k 0 = d from by simp [List.getElem?_eq_getElem hk, e]] at h3
  exact ⟨h3.2.2.1, h3.2.2.2.1⟩
/-- The size of a tensor; -1 where it is none. -/
def tsize (ls ds : List Int) : Int := if axOk ls ds ∧ prodI ds ≤ 4096 then prodI ds else -1
theorem tsize_len1 {ls ds : List Int} (h : 12 < ls.length) : tsize ls ds = -1 := by
  unfold tsize; rw [if_neg]; rintro ⟨h1, _⟩; have := h1.1; omega
theorem tsize_len2 {ls ds : List Int} (h : ls.length ≠ ds.length) : tsize ls ds = -1 := by
  unfold tsize; rw [if_neg]; rintro ⟨h1, _⟩; exact h h1.2.1
theorem tsize_ax {ls ds : List Int} (k : Nat) (hk : k < ls.length) (h : ¬ axAt ls ds k) : tsize ls ds = -1 := by
  unfold tsize; rw [if_neg]; rintro ⟨h1, _⟩; exact h (h1.2.2 k hk)
theorem tsize_big {ls ds : List Int} (k : Nat) (hk : k < ls.length) (hl : ls.length = ds.length) (h : 4096 < prodI (ds.take k) * ds.getD k 0) : tsize ls ds = -1 := by
  unfold tsize; rw [if_neg]
  rintro ⟨h1, h2⟩
  have := prodI_take_le ds (k + 1) (fun d hd => (h1.dim d hd).1)
  rw [prodI_take_succ ds k (by omega)] at this
  omega
theorem tsize_good {ls ds : List Int} (h0 : ls.length ≤ 12) (h1 : ls.length = ds.length) (h2 : ∀ k, k < ls.length → axAt ls ds k) (h3 : prodI ds ≤ 4096) : tsize ls ds = prodI ds := by
  unfold tsize; rw [if_pos ⟨⟨h0, h1, h2⟩, h3⟩]
theorem tsize_cases (ls ds : List Int) : tsize ls ds = -1 ∨ (axOk ls ds ∧ prodI ds ≤ 4096 ∧ tsize ls ds = prodI ds ∧ 1 ≤ prodI ds) := by
  unfold tsize
  by_cases h : axOk ls ds ∧ prodI ds ≤ 4096
  · rw [if_pos h]; exact .inr ⟨h.1, h.2, rfl, prodI_pos ds fun d hd => (h.1.dim d hd).1⟩
  · rw [if_neg h]; exact .inl rfl

/-- Is x in the list? -/
def has (xs : List Int) (x : Int) : Bool := decide (x ∈ xs)
theorem has_true {xs : List Int} {x : Int} : has xs x = true ↔ x ∈ xs := by simp [has]
theorem has_false {xs : List Int} {x : Int} : has xs x = false ↔ x ∉ xs := by simp [has]
theorem mem_take_succ (xs : List Int) (k : Nat) (x : Int) (h : k < xs.length) : x ∈ xs.take (k + 1) ↔ x ∈ xs.take k ∨ x = xs.getD k 0 := by
  rw [List.take_succ_eq_append_getElem h, List.mem_append]
  simp [List.getElem?_eq_getElem h]
theorem mem_of_get (xs : List Int) (k : Nat) (h : k < xs.length) : xs.getD k 0 ∈ xs := by
  simp [List.getElem?_eq_getElem h]

/-- The place of x in the list, or -1. -/
def place (xs : List Int) (x : Int) : Int := if x ∈ xs then (xs.idxOf x : Int) else -1
theorem place_no {xs : List Int} {x : Int} (h : x ∉ xs) : place xs x = -1 := by unfold place; rw [if_neg h]
theorem place_yes {xs : List Int} {k : Nat} (hk : k < xs.length) (h : xs.getD k 0 ∉ xs.take k) : place xs (xs.getD k 0) = k := by
  unfold place
  have hg : xs.getD k 0 = xs[k] := by simp [List.getElem?_eq_getElem hk]
  rw [if_pos (mem_of_get xs k hk)]
  have hs : xs = xs.take k ++ xs[k] :: xs.drop (k + 1) := by rw [← List.drop_eq_getElem_cons hk, List.take_append_drop]
  rw [hg] at h ⊢
  have hi : List.idxOf xs[k] (xs.take k ++ xs[k] :: xs.drop (k + 1)) = k := by
    rw [List.idxOf_append, if_neg h, List.idxOf_cons_self]
    simp; omega
  rw [← hs] at hi
  omega
theorem place_neg {xs : List Int} {x : Int} : place xs x < 0 ↔ x ∉ xs := by
  unfold place
  by_cases h : x ∈ xs
  · rw [if_pos h]; constructor
    · intro h2; omega
    · intro h2; exact absurd h h2
  · rw [if_neg h]; simp [h]

theorem axAt_has (ls ds : List Int) (k : Nat) : axAt ls ds k ↔ 0 ≤ ls.getD k 0 ∧ ls.getD k 0 ≤ 99 ∧ has (ls.take k) (ls.getD k 0) = false ∧ 1 ≤ ds.getD k 0 ∧ ds.getD k 0 ≤ 8 := by
  unfold axAt
  rw [has_false]
  constructor
  · rintro ⟨a, b, c, d, e⟩; exact ⟨a, b, e, c, d⟩
  · rintro ⟨a, b, c, d, e⟩; exact ⟨a, b, d, e, c⟩

theorem min_mul (p y m : Int) (hy : 1 ≤ y) (hm : 1 ≤ m) : min (min p m * y) m = min (p * y) m := by
  rcases Int.le_total p m with h | h
  · rw [Int.min_eq_left h]
  · rw [Int.min_eq_right h]
    have h1 : m ≤ m * y := by have := Int.mul_le_mul_of_nonneg_left hy (show 0 ≤ m by omega); omega
    have h2 : m * y ≤ p * y := Int.mul_le_mul_of_nonneg_right h (by omega)
    omega

end Go.Proofs.Ytjncdanegoileaa.Plain

/-
  Plain facts on indices and offsets; no program in sight. No condition.
-/
namespace Go.Proofs.Ytjncdanegoileaa.Plain

/-! ### An index and its offset -/
def offsTo (ds is : List Int) : Nat → Int
  | 0 => 0
  | k + 1 => offsTo ds is k * ds.getD k 0 + is.getD k 0
def idxAt (ds is : List Int) (k : Nat) : Prop := 0 ≤ is.getD k 0 ∧ is.getD k 0 < ds.getD k 0
instance (ds is : List Int) (k : Nat) : Decidable (idxAt ds is k) := by unfold idxAt; infer_instance
def idxOk (ds is : List Int) : Prop := is.length = ds.length ∧ ∀ k, k < ds.length → idxAt ds is k
instance (ds is : List Int) : Decidable (idxOk ds is) := by unfold idxOk; infer_instance
def offs (ds is : List Int) : Int := offsTo ds is ds.length
theorem offsTo_bd (ds is : List Int) (hd : ∀ d ∈ ds, 1 ≤ d) : ∀ k, k ≤ ds.length → (∀ j, j < k → idxAt ds is j) → 0 ≤ offsTo ds is k ∧ offsTo ds is k < prodI (ds.take k) := by
  intro k
  induction k with
  | zero => intro _ _; simp [offsTo, prodI]
  | succ k ih =>
    intro hk h
    obtain ⟨h1, h2⟩ := ih (by omega) (fun j hj => h j (by omega))
    obtain ⟨h3, h4⟩ := h k (by omega)
    have hdk := hd _ (mem_of_get ds k (by omega))
    rw [prodI_take_succ ds k (by omega)]
    show 0 ≤ offsTo ds is k * ds.getD k 0 + is.getD k 0 ∧ offsTo ds is k * ds.getD k 0 + is.getD k 0 < _
    have h5 : 0 ≤ offsTo ds is k * ds.getD k 0 := Int.mul_nonneg h1 (by omega)
    have h6 : (offsTo ds is k + 1) * ds.getD k 0 ≤ prodI (ds.take k) * ds.getD k 0 := Int.mul_le_mul_of_nonneg_right (by omega) (by omega)
    rw [Int.add_mul, Int.one_mul] at h6
    omega
theorem offsTo_succ (ds is : List Int) (k : Nat) : offsTo ds is (k + 1) = offsTo ds is k * ds.getD k 0 + is.getD k 0 := rfl
theorem offs_bd (ls ds is : List Int) (h : axOk ls ds) (hi : idxOk ds is) : 0 ≤ offs ds is ∧ offs ds is < prodI ds := by
  have := offsTo_bd ds is (fun d hd => (h.dim d hd).1) ds.length (Nat.le_refl _) hi.2
  rwa [List.take_length] at this

/-! ### The index at an offset -/
def digit (ds : List Int) (n : Int) (k : Nat) : Int := (n / prodI (ds.drop (k + 1))) % ds.getD k 0
def digits (ds : List Int) (n : Int) : List Int := (List.range ds.length).map (digit ds n)
theorem digits_len (ds : List Int) (n : Int) : (digits ds n).length = ds.length := by simp [digits]
theorem digits_get (ds : List Int) (n : Int) (k : Nat) (h : k < ds.length) : (digits ds n).getD k 0 = digit ds n k := by simp [digits, h]
theorem prodI_drop (ds : List Int) (k : Nat) (h : k < ds.length) : prodI (ds.drop k) = ds.getD k 0 * prodI (ds.drop (k + 1)) := by
  rw [List.drop_eq_getElem_cons h, prodI_cons]
  simp [List.getElem?_eq_getElem h]
theorem quot_step (ds : List Int) (n : Int) (k : Nat) (h : k < ds.length) (hd : ∀ d ∈ ds, 1 ≤ d) : n / prodI (ds.drop (k + 1)) / ds.getD k 0 = n / prodI (ds.drop k) := by
  rw [prodI_drop ds k h, Int.ediv_ediv_of_nonneg (by have := prodI_pos (ds.drop (k + 1)) (fun d hx => hd d (List.mem_of_mem_drop hx)); omega), Int.mul_comm]
theorem set_rep_drop (D : List Int) (j n : Nat) (hl : D.length = n) (hj : j < n) :
    (List.replicate (j + 1) 0 ++ D.drop (j + 1)).set j (D.getD j 0) = List.replicate j 0 ++ D.drop j := by
  subst hl
  rw [List.set_append_left _ _ (by simp), List.replicate_succ', List.set_append_right _ _ (by simp), List.length_replicate, Nat.sub_self, List.set_cons_zero, List.append_assoc, List.singleton_append, List.drop_eq_getElem_cons hj]
  simp [List.getElem?_eq_getElem hj]

def indexAt (ls ds : List Int) (n : Int) : List Int := if 0 ≤ n ∧ n < tsize ls ds then digits ds n else []

end Go.Proofs.Ytjncdanegoileaa.Plain

/-
  Plain facts on rings; no program in sight. No condition.
-/
namespace Go.Proofs.Ytjncdanegoileaa.Plain

/-! ### Primes -/
def isPrime (n : Int) : Bool := decide (2 ≤ n ∧ n ≤ 1000003 ∧ ∀ d : Nat, d < 1001 → 2 ≤ d → (d : Int) * d ≤ n → n % d ≠ 0)
theorem isPrime_lo {n : Int} (h : n < 2) : isPrime n = false := decide_eq_false (fun x => by omega)
theorem isPrime_hi {n : Int} (h : 1000003 < n) : isPrime n = false := decide_eq_false (fun x => by omega)
theorem sq_le {d : Nat} {n : Int} (h : (d : Int) * d ≤ n) (hn : n ≤ 1000003) : d ≤ 1000 := by
  rcases Nat.lt_or_ge 1000 d with h1 | h1
  · have h2 : 1001 * 1001 ≤ d * d := Nat.mul_le_mul h1 h1
    have h3 : ((d * d : Nat) : Int) = (d : Int) * d := by simp
    omega
  · exact h1
theorem isPrime_div {n : Int} {d : Nat} (h2 : 2 ≤ d) (h3 : (d : Int) * d ≤ n) (h4 : n ≤ 1000003) (h5 : n % d = 0) : isPrime n = false :=
  decide_eq_false (fun x => x.2.2 d (by have := sq_le h3 h4; omega) h2 h3 h5)
theorem isPrime_yes {n : Int} {k : Nat} (h1 : 2 ≤ n) (h2 : n ≤ 1000003) (h3 : ∀ d : Nat, 2 ≤ d → d < k → n % d ≠ 0) (h4 : n < (k : Int) * k) : isPrime n = true := by
  refine decide_eq_true ⟨h1, h2, fun d _ hd2 hdn => h3 d hd2 ?_⟩
  rcases Nat.lt_or_ge d k with h | h
  · exact h
  · have h5 : k * k ≤ d * d := Nat.mul_le_mul h h
    have h6 : ((d * d : Nat) : Int) = (d : Int) * d := by simp
    have h7 : ((k * k : Nat) : Int) = (k : Int) * k := by simp
    omega
theorem sq_bd {k : Nat} (h : k ≤ 1001) : 0 ≤ (k : Int) * k ∧ (k : Int) * k ≤ 1002001 := by
  have h1 : k * k ≤ 1001 * 1001 := Nat.mul_le_mul h h
  have h2 : ((k * k : Nat) : Int) = (k : Int) * k := by simp
  omega
theorem isPrime_bd {n : Int} (h : isPrime n = true) : 2 ≤ n ∧ n ≤ 1000003 := by
  have := of_decide_eq_true h
  exact ⟨this.1, this.2.1⟩

/-! ### Rings -/
structure Rg where
  k : Int
  p : Int
  n : Int
def ringOk (r : Rg) : Bool :=
  if r.k = 1 then decide (r.p = 0 ∧ r.n = 0)
  else if r.k = 2 then isPrime r.p && decide (r.n = 0)
  else if r.k = 3 ∨ r.k = 4 ∨ r.k = 5 then decide (1 ≤ r.p ∧ r.p ≤ 1000000 ∧ r.n = 0)
  else if r.k = 6 then decide (r.p = 0 ∧ 1 ≤ r.n ∧ r.n ≤ 20)
  else if r.k = 7 then isPrime r.p && decide (1 ≤ r.n ∧ r.n ≤ 6)
  else if r.k = 8 then isPrime r.p && decide (r.p ≠ 2 ∧ r.n = 0)
  else false
def width (r : Rg) : Int := if r.k = 7 then r.n else if r.k = 8 then 4 else 1
def top (r : Rg) : Int := if r.k = 1 then 1 else if r.k = 3 ∨ r.k = 4 ∨ r.k = 5 then r.p else if r.k = 6 then 2 ^ r.n.toNat - 1 else r.p - 1
/-- What is known of a ring that is right: its kind and its numbers. -/
theorem ringOk_cases {r : Rg} (h : ringOk r = true) :
    (r.k = 1 ∧ r.p = 0 ∧ r.n = 0) ∨ (r.k = 2 ∧ isPrime r.p = true ∧ r.n = 0) ∨ (r.k = 3 ∧ 1 ≤ r.p ∧ r.p ≤ 1000000 ∧ r.n = 0) ∨ (r.k = 4 ∧ 1 ≤ r.p ∧ r.p ≤ 1000000 ∧ r.n = 0) ∨
    (r.k = 5 ∧ 1 ≤ r.p ∧ r.p ≤ 1000000 ∧ r.n = 0) ∨ (r.k = 6 ∧ r.p = 0 ∧ 1 ≤ r.n ∧ r.n ≤ 20) ∨ (r.k = 7 ∧ isPrime r.p = true ∧ 1 ≤ r.n ∧ r.n ≤ 6) ∨ (r.k = 8 ∧ isPrime r.p = true ∧ r.p ≠ 2 ∧ r.n = 0) := by
  unfold ringOk at h
  split at h
  · simp at h; omega
  · split at h
    · simp at h; exact .inr (.inl ⟨by assumption, h⟩)
    · split at h
      · simp at h; omega
      · split at h
        · simp at h; omega
        · split at h
          · simp at h; exact .inr (.inr (.inr (.inr (.inr (.inr (.inl ⟨by assumption, h⟩))))))
          · split at h
            · simp at h; exact .inr (.inr (.inr (.inr (.inr (.inr (.inr ⟨by assumption, h⟩))))))
            · cases h
theorem width_bd {r : Rg} (h : ringOk r = true) : 1 ≤ width r ∧ width r ≤ 6 := by
  unfold width
  rcases ringOk_cases h with h | h | h | h | h | h | h | h <;> (split <;> (try split) <;> omega)
theorem pow_bd {n : Int} (h1 : 1 ≤ n) (h2 : n ≤ 20) : 2 ≤ (2 : Int) ^ n.toNat ∧ (2 : Int) ^ n.toNat ≤ 1048576 := by
  obtain ⟨m, rfl⟩ : ∃ m : Nat, n = (m : Int) := ⟨n.toNat, by omega⟩
  rw [Int.toNat_natCast]
  have a : 2 ^ 1 ≤ 2 ^ m := Nat.pow_le_pow_right (by omega) (by omega)
  have b : 2 ^ m ≤ 2 ^ 20 := Nat.pow_le_pow_right (by omega) (by omega)
  have c : ((2 ^ m : Nat) : Int) = (2 : Int) ^ m := by simp
  omega
theorem top_bd {r : Rg} (h : ringOk r = true) : 1 ≤ top r ∧ top r ≤ 1048576 := by
  unfold top
  rcases ringOk_cases h with h | h | h | h | h | h | h | h
  · rw [if_pos h.1]; omega
  · have := isPrime_bd h.2.1; rw [if_neg (by omega), if_neg (by omega), if_neg (by omega)]; omega
  · rw [if_neg (by omega), if_pos (by omega)]; omega
  · rw [if_neg (by omega), if_pos (by omega)]; omega
  · rw [if_neg (by omega), if_pos (by omega)]; omega
  · have := pow_bd h.2.2.1 h.2.2.2; rw [if_neg (by omega), if_neg (by omega), if_pos (by omega)]; omega
  · have := isPrime_bd h.2.1; rw [if_neg (by omega), if_neg (by omega), if_neg (by omega)]; omega
  · have := isPrime_bd h.2.1; rw [if_neg (by omega), if_neg (by omega), if_neg (by omega)]; omega

/-- All numbers fit the ring. -/
def fits (r : Rg) (xs : List Int) : Prop := ∀ k, k < xs.length → 0 ≤ xs.getD k 0 ∧ xs.getD k 0 ≤ top r
instance (r : Rg) (xs : List Int) : Decidable (fits r xs) := by unfold fits; infer_instance
def fitsB (r : Rg) (xs : List Int) : Bool := decide (fits r xs)
theorem fitsB_no {r : Rg} {xs : List Int} (k : Nat) (hk : k < xs.length) (h : ¬ (0 ≤ xs.getD k 0 ∧ xs.getD k 0 ≤ top r)) : fitsB r xs = false := decide_eq_false (fun x => h (x k hk))
theorem fitsB_yes {r : Rg} {xs : List Int} (h : ∀ k, k < xs.length → 0 ≤ xs.getD k 0 ∧ xs.getD k 0 ≤ top r) : fitsB r xs = true := decide_eq_true h
def tensorOk (r : Rg) (ls ds xs : List Int) : Bool := ringOk r && decide (tsize ls ds ≠ -1 ∧ (xs.length : Int) = tsize ls ds * width r) && fitsB r xs

end Go.Proofs.Ytjncdanegoileaa.Plain

/-
  Words for memory that all the walks of this seat share: a slice of ints that reads as a list, a slice of ints that the call owns, tensors of both kinds. No condition.
-/
namespace Go.Proofs.Ytjncdanegoileaa
open Go.RowKit

/-! ### A slice of ints that reads as a list -/

/-- The slice '(A, n)' holds the integers xs, in a block below B. -/
def IntsAt (w : World) (B : Nat) (A : Option Addr) (n : Nat) (xs : List Int) : Prop :=
  xs.length = n ∧ (0 < n → ∃ b off, A = some ⟨b, off, none⟩ ∧ b < B ∧ ∀ j, j < n → w.cell? ⟨b, off + j, none⟩ = some (.int .i64 (xs.getD j 0)))

section
variable {w w' : World} {B B' n : Nat} {A : Option Addr} {xs : List Int}
theorem IntsAt.len (h : IntsAt w B A n xs) : xs.length = n := h.1
theorem IntsAt.at_ (h : IntsAt w B A n xs) (hn : 0 < n) : ∃ b off, A = some ⟨b, off, none⟩ ∧ b < B ∧ ∀ j, j < n → w.cell? ⟨b, off + j, none⟩ = some (.int .i64 (xs.getD j 0)) := h.2 hn
theorem IntsAt.below (h : IntsAt w B A n xs) (hb : Below B' w w') (hB : B ≤ B') : IntsAt w' B A n xs :=
  ⟨h.1, fun hn => by
    obtain ⟨b, off, e, hlt, hc⟩ := h.2 hn
    exact ⟨b, off, e, hlt, fun j hj => (hb.cell (p := ⟨b, off + j, none⟩) (by show b < B'; omega)).trans (hc j hj)⟩⟩
theorem IntsAt.mono (h : IntsAt w B A n xs) (hB : B ≤ B') : IntsAt w B' A n xs :=
  ⟨h.1, fun hn => by
    obtain ⟨b, off, e, hlt, hc⟩ := h.2 hn
    exact ⟨b, off, e, by omega, hc⟩⟩
theorem IntsAt.drew (h : IntsAt w B A n xs) : IntsAt w.drew B A n xs := h
theorem IntsAt.drewN (h : IntsAt w B A n xs) (k : Nat) : IntsAt (w.drewN k) B A n xs := h
theorem IntsAt.take (h : IntsAt w B A n xs) {k : Nat} (hk : k ≤ n) : IntsAt w B A k (xs.take k) :=
  ⟨by have := h.1; simp; omega, fun h0 => by
    obtain ⟨b, off, e, hlt, hc⟩ := h.2 (by omega)
    refine ⟨b, off, e, hlt, fun j hj => (hc j (by omega)).trans ?_⟩
    simp [hj]⟩
theorem IntsAt.nil : IntsAt w B A 0 [] := ⟨rfl, fun h => absurd h (by omega)⟩
end

theorem bcell {B : Nat} {W w1 : World} (hb : Below B W w1) : (∀ b o, b < B → w1.cell? ⟨b, o, none⟩ = W.cell? ⟨b, o, none⟩) ∧ (∀ b o, b < B → w1.frozen? ⟨b, o, none⟩ = W.frozen? ⟨b, o, none⟩) :=
  ⟨fun b o h => hb.cell (p := ⟨b, o, none⟩) h, fun b o h => hb.frozen (p := ⟨b, o, none⟩) h⟩
theorem below_drewN {B : Nat} {a w : World} (h : Below B a w) (n : Nat) : Below B a (w.drewN n) := ⟨h.os, h.tape, h.output, h.size, h.block⟩

/-! ### A slice of ints that the call owns -/

def blkOf (A : Option Addr) : Option Nat := A.map (·.block)
/-- Two slices that lie in blocks of their own. -/
def Apart (A A' : Option Addr) : Prop := ∀ a a', A = some a → A' = some a' → a.block ≠ a'.block
theorem Apart.symm {A A' : Option Addr} (h : Apart A A') : Apart A' A := fun a a' e e' => (h a' a e' e).symm
/-- The slice '(A, n, c)' owns the integers xs: a whole block from lo on, below hi. -/
def OwnI (w : World) (lo hi : Nat) (A : Option Addr) (n c : Nat) (xs : List Int) : Prop :=
  xs.length = n ∧ w.ownsRow lo 3 1 (.slice A n c) n (xs.map (.int .i64)) ∧ ∀ a, A = some a → a.block < hi

section
variable {w w' : World} {lo hi lo' hi' B n c : Nat} {A A' : Option Addr} {xs : List Int}
theorem OwnI.len (h : OwnI w lo hi A n c xs) : xs.length = n := h.1
theorem OwnI.mono (h : OwnI w lo hi A n c xs) (hl : lo' ≤ lo) (hh : hi ≤ hi') : OwnI w lo' hi' A n c xs := by
  obtain ⟨h1, ⟨h2, h3⟩, h4⟩ := h
  refine ⟨h1, ⟨h2, ?_⟩, fun a e => Nat.lt_of_lt_of_le (h4 a e) hh⟩
  rcases h3 with h3 | ⟨g, cap, cur, hv, hg, r⟩
  · exact .inl h3
  · exact .inr ⟨g, cap, cur, hv, by omega, r⟩
/-- What it looks like: nil, or a whole block. -/
theorem OwnI.form (h : OwnI w lo hi A n c xs) : (A = none ∧ n = 0 ∧ c = 0 ∧ xs = []) ∨
    ∃ g cur, A = some ⟨g, 0, none⟩ ∧ lo ≤ g ∧ g < hi ∧ w.heap[g]? = some (.cells cur 3 (0, 0)) ∧ n ≤ c ∧ c ≤ maxLen ∧ cur.size = c ∧ cur.toList.take n = xs.map (.int .i64) := by
  obtain ⟨h1, ⟨h2, h3⟩, h4⟩ := h
  rcases h3 with ⟨hv, hn⟩ | ⟨g, cap, cur, hv, hg, hh, hnc, hm, hs, ht⟩
  · simp only [Value.slice.injEq] at hv
    obtain ⟨rfl, rfl, rfl⟩ := hv
    exact .inl ⟨rfl, rfl, rfl, List.eq_nil_of_length_eq_zero h1⟩
  · simp only [Value.slice.injEq] at hv
    obtain ⟨rfl, _, rfl⟩ := hv
    exact .inr ⟨g, cur, rfl, hg, h4 _ rfl, hh, hnc, hm, by simpa using hs, by simpa using ht⟩
theorem OwnI.mk_row (g : Nat) (cur : Array Value) (hl : xs.length = n) (hlo : lo ≤ g) (hhi : g < hi) (hh : w.heap[g]? = some (.cells cur 3 (0, 0))) (hnc : n ≤ c) (hm : c ≤ maxLen) (hs : cur.size = c)
    (ht : cur.toList.take n = xs.map (.int .i64)) : OwnI w lo hi (some ⟨g, 0, none⟩) n c xs :=
  ⟨hl, ⟨by simpa using hl, .inr ⟨g, c, cur, rfl, hlo, hh, hnc, hm, by simpa using hs, by simpa using ht⟩⟩, fun a e => by injection e with e; subst e; exact hhi⟩
theorem OwnI.nil : OwnI w lo hi none 0 0 [] := ⟨rfl, World.ownsRow_nil _ _ _ _, fun a e => by cases e⟩
theorem OwnI.ints (h : OwnI w lo hi A n c xs) : IntsAt w hi A n xs := by
  refine ⟨h.1, fun hn => ?_⟩
  rcases h.form with ⟨_, h0, _⟩ | ⟨g, cur, rfl, hlo, hhi, hh, hnc, hm, hs, ht⟩
  · omega
  · refine ⟨g, 0, rfl, hhi, fun j hj => ?_⟩
    rw [Nat.zero_add, cell_of_row w g j cur _ (0, 0) hh]
    have e : (cur.toList.take n)[j]? = (xs.map (Value.int .i64))[j]? := by rw [ht]
    rw [List.getElem?_take, if_pos hj] at e
    have hx : j < xs.length := by have := h.1; omega
    simpa [List.getElem?_eq_getElem hx] using e
theorem OwnI.grown (h : OwnI w lo hi A n c xs) {row : Option Nat} (hg : w.grownBy w' row) (hne : ∀ a, A = some a → some a.block ≠ row) : OwnI w' lo hi A n c xs := by
  rcases h.form with ⟨rfl, rfl, rfl, rfl⟩ | ⟨g, cur, rfl, hlo, hhi, hh, hnc, hm, hs, ht⟩
  · exact OwnI.nil
  · have hlt : g < w.heap.size := (Array.getElem?_eq_some_iff.1 hh).1
    exact OwnI.mk_row g cur h.1 hlo hhi ((hg.block g hlt (hne _ rfl)).trans hh) hnc hm hs ht
theorem OwnI.below (h : OwnI w lo hi A n c xs) (hb : Below B w w') (hB : hi ≤ B) : OwnI w' lo hi A n c xs := by
  rcases h.form with ⟨rfl, rfl, rfl, rfl⟩ | ⟨g, cur, rfl, hlo, hhi, hh, hnc, hm, hs, ht⟩
  · exact OwnI.nil
  · exact OwnI.mk_row g cur h.1 hlo hhi ((hb.block g (by omega)).trans hh) hnc hm hs ht
theorem OwnI.lt (h : OwnI w lo hi A n c xs) : ∀ a, A = some a → lo ≤ a.block ∧ a.block < w.heap.size ∧ a.block < hi := by
  intro a e
  rcases h.form with ⟨rfl, _⟩ | ⟨g, cur, rfl, hlo, hhi, hh, _⟩
  · cases e
  · injection e with e
    subst e
    exact ⟨hlo, (Array.getElem?_eq_some_iff.1 hh).1, hhi⟩
theorem OwnI.top (h : OwnI w lo hi A n c xs) : OwnI w lo w.heap.size A n c xs := ⟨h.1, h.2.1, fun a e => (h.lt a e).2.1⟩
theorem OwnI.apart {ys : List Int} {lo2 hi2 m d : Nat} (h : OwnI w lo hi A n c xs) (h2 : OwnI w' lo2 hi2 A' m d ys) (hle : hi ≤ lo2) : Apart A A' := fun a a' e e' => by
  have := (h.lt a e).2.2
  have := (h2.lt a' e').1
  omega
theorem OwnI.of_made (cs : Array Value) (hlo : lo ≤ w.heap.size) (hm : n ≤ maxLen) (hs : cs.size = n) (ht : cs.toList = xs.map (.int .i64)) :
    OwnI (w.alloc (.cells cs 3)) lo (w.heap.size + 1) (some ⟨w.heap.size, 0, none⟩) n n xs := by
  have hl : xs.length = n := by rw [← hs, ← Array.length_toList, ht, List.length_map]
  exact OwnI.mk_row _ cs hl hlo (by omega) (heap_alloc_new w _) (Nat.le_refl _) hm hs (by rw [List.take_of_length_le (by rw [Array.length_toList]; omega), ht])
/-- A store into the owned block. -/
theorem OwnI.set {g : Nat} (h : OwnI w lo hi (some ⟨g, 0, none⟩) n c xs) (j : Nat) (x : Int) :
    OwnI (w.setCell ⟨g, j, none⟩ (.int .i64 x)) lo hi (some ⟨g, 0, none⟩) n c (xs.set j x) ∧ w.grownBy (w.setCell ⟨g, j, none⟩ (.int .i64 x)) (some g) := by
  have r := h.2.1.stored j (.int .i64 x)
  exact ⟨⟨by simpa using h.1, by simpa [List.map_set] using r.1, h.2.2⟩, r.2⟩
theorem OwnI.cell {g : Nat} (h : OwnI w lo hi (some ⟨g, 0, none⟩) n c xs) {j : Nat} (hj : j < n) : w.cell? ⟨g, j, none⟩ = some (.int .i64 (xs.getD j 0)) := by
  obtain ⟨b, off, e, _, hc⟩ := h.ints.2 (by omega)
  injection e with e
  injection e with e1 e2
  subst e1; subst e2
  simpa using hc j hj
theorem OwnI.frozen {g : Nat} (h : OwnI w lo hi (some ⟨g, 0, none⟩) n c xs) (j : Nat) : w.frozen? ⟨g, j, none⟩ = false := h.2.1.frozenAt j
end

theorem only_setCell1 (w : World) (g j : Nat) (u : Value) : w.grownBy (w.setCell ⟨g, j, none⟩ u) (some g) :=
  ⟨rfl, rfl, rfl, by simp [World.setCell], fun k _ hk => heap_setCell_other w ⟨g, j, none⟩ k u (fun e => hk (by simp [e]))⟩

theorem OwnI.cap {w : World} {lo hi n c : Nat} {A : Option Addr} {xs : List Int} (h : OwnI w lo hi A n c xs) : n ≤ c := by
  rcases h.form with ⟨rfl, rfl, rfl, rfl⟩ | ⟨g, cur, rfl, hlo, hhi, hh, hnc, hm, hs, ht⟩ <;> omega
/-- A store into a block below the owned ones. -/
theorem OwnI.far {w : World} {lo hi n c g j : Nat} {A : Option Addr} {xs : List Int} (h : OwnI w lo hi A n c xs) (u : Value) (hg : g < lo) : OwnI (w.setCell ⟨g, j, none⟩ u) lo hi A n c xs :=
  h.grown (only_setCell1 w g j u) (fun a e => by have := h.lt a e; simp; omega)
theorem size_setCell (w : World) (a : Addr) (u : Value) : (w.setCell a u).heap.size = w.heap.size := by simp [World.setCell]

/-- Of what was there only blocks in S have turned. -/
structure Only (S : Nat → Prop) (w w' : World) : Prop where
  os : w'.os = w.os
  tape : w'.tape = w.tape
  output : w'.output = w.output
  size : w.heap.size ≤ w'.heap.size
  block : ∀ k, k < w.heap.size → ¬ S k → w'.heap[k]? = w.heap[k]?
section
variable {S S' : Nat → Prop} {w w' w'' : World} {B : Nat}
theorem Only.refl (S : Nat → Prop) (w : World) : Only S w w := ⟨rfl, rfl, rfl, Nat.le_refl _, fun _ _ _ => rfl⟩
theorem Only.trans (h : Only S w w') (h' : Only S w' w'') : Only S w w'' :=
  ⟨h'.os.trans h.os, h'.tape.trans h.tape, h'.output.trans h.output, Nat.le_trans h.size h'.size, fun k hk hn => (h'.block k (Nat.lt_of_lt_of_le hk h.size) hn).trans (h.block k hk hn)⟩
theorem Only.mono (h : Only S w w') (hs : ∀ k, k < w.heap.size → S k → S' k) : Only S' w w' := ⟨h.os, h.tape, h.output, h.size, fun k hk hn => h.block k hk (fun x => hn (hs k hk x))⟩
theorem Only.old (h : Below w.heap.size w w') (S : Nat → Prop) : Only S w w' := ⟨h.os, h.tape, h.output, h.size, fun k hk _ => h.block k hk⟩
theorem Only.below (h : Only S w w') (hB : B ≤ w.heap.size) (hs : ∀ k, S k → B ≤ k) : Below B w w' := ⟨h.os, h.tape, h.output, h.size, fun k hk => h.block k (by omega) (fun x => by have := hs k x; omega)⟩
theorem Only.cells (h : Only S w w') {b : Nat} (hb : b < w.heap.size) (hn : ¬ S b) : (∀ o, w'.cell? ⟨b, o, none⟩ = w.cell? ⟨b, o, none⟩) ∧ (∀ o, w'.frozen? ⟨b, o, none⟩ = w.frozen? ⟨b, o, none⟩) :=
  ⟨fun o => World.cell?_of_block (a := ⟨b, o, none⟩) (h.block b hb hn), fun o => World.frozen?_of_block (a := ⟨b, o, none⟩) (h.block b hb hn)⟩
theorem IntsAt.only {n : Nat} {A : Option Addr} {xs : List Int} (h : IntsAt w B A n xs) (ho : Only S w w') (hB : B ≤ w.heap.size) (hn : ∀ a, A = some a → ¬ S a.block) : IntsAt w' B A n xs :=
  ⟨h.1, fun h0 => by
    obtain ⟨b, off, e, hlt, hc⟩ := h.2 h0
    exact ⟨b, off, e, hlt, fun j hj => ((ho.cells (b := b) (by omega) (hn _ e)).1 (off + j)).trans (hc j hj)⟩⟩
theorem OwnI.only {lo hi n c : Nat} {A : Option Addr} {xs : List Int} (h : OwnI w lo hi A n c xs) (ho : Only S w w') (hn : ∀ a, A = some a → ¬ S a.block) : OwnI w' lo hi A n c xs := by
  rcases h.form with ⟨rfl, rfl, rfl, rfl⟩ | ⟨g, cur, rfl, hlo, hhi, hh, hnc, hm, hs, ht⟩
  · exact OwnI.nil
  · have hlt : g < w.heap.size := (Array.getElem?_eq_some_iff.1 hh).1
    exact OwnI.mk_row g cur h.1 hlo hhi ((ho.block g hlt (hn _ rfl)).trans hh) hnc hm hs ht
end
theorem OwnI.old {w w' : World} {lo hi n c : Nat} {A : Option Addr} {xs : List Int} (h : OwnI w lo hi A n c xs) (hb : Below w.heap.size w w') : OwnI w' lo hi A n c xs :=
  h.only (Only.old hb (fun _ => False)) (fun _ _ x => x)
theorem Apart.ne {A A' : Option Addr} (h : Apart A A') {a : Addr} (e : A = some a) : some a.block ≠ blkOf A' := by
  rcases A' with _ | a'
  · simp [blkOf]
  · intro e'
    exact h a a' e rfl (by simpa [blkOf] using e')

/-! ### Tensors -/

structure Ten where
  labels : List Int
  dims : List Int
  data : List Int

structure TenAt (w : World) (B : Nat) (A0 : Option Addr) (n0 : Nat) (A1 : Option Addr) (n1 : Nat) (A2 : Option Addr) (n2 : Nat) (t : Ten) : Prop where
  l : IntsAt w B A0 n0 t.labels
  d : IntsAt w B A1 n1 t.dims
  x : IntsAt w B A2 n2 t.data

structure OwnT (w : World) (lo hi : Nat) (A0 : Option Addr) (n0 c0 : Nat) (A1 : Option Addr) (n1 c1 : Nat) (A2 : Option Addr) (n2 c2 : Nat) (t : Ten) : Prop where
  l : OwnI w lo hi A0 n0 c0 t.labels
  d : OwnI w lo hi A1 n1 c1 t.dims
  x : OwnI w lo hi A2 n2 c2 t.data
  ld : Apart A0 A1
  lx : Apart A0 A2
  dx : Apart A1 A2

section
variable {w w' : World} {B B' lo hi lo' hi' n0 c0 n1 c1 n2 c2 : Nat} {A0 A1 A2 : Option Addr} {t : Ten}
theorem TenAt.below (h : TenAt w B A0 n0 A1 n1 A2 n2 t) (hb : Below B' w w') (hB : B ≤ B') : TenAt w' B A0 n0 A1 n1 A2 n2 t := ⟨h.l.below hb hB, h.d.below hb hB, h.x.below hb hB⟩
theorem TenAt.mono (h : TenAt w B A0 n0 A1 n1 A2 n2 t) (hB : B ≤ B') : TenAt w B' A0 n0 A1 n1 A2 n2 t := ⟨h.l.mono hB, h.d.mono hB, h.x.mono hB⟩
theorem OwnT.tens (h : OwnT w lo hi A0 n0 c0 A1 n1 c1 A2 n2 c2 t) : TenAt w hi A0 n0 A1 n1 A2 n2 t := ⟨h.l.ints, h.d.ints, h.x.ints⟩
theorem OwnT.below (h : OwnT w lo hi A0 n0 c0 A1 n1 c1 A2 n2 c2 t) (hb : Below B w w') (hB : hi ≤ B) : OwnT w' lo hi A0 n0 c0 A1 n1 c1 A2 n2 c2 t :=
  ⟨h.l.below hb hB, h.d.below hb hB, h.x.below hb hB, h.ld, h.lx, h.dx⟩
theorem OwnT.mono (h : OwnT w lo hi A0 n0 c0 A1 n1 c1 A2 n2 c2 t) (hl : lo' ≤ lo) (hh : hi ≤ hi') : OwnT w lo' hi' A0 n0 c0 A1 n1 c1 A2 n2 c2 t :=
  ⟨h.l.mono hl hh, h.d.mono hl hh, h.x.mono hl hh, h.ld, h.lx, h.dx⟩
end

theorem OwnT.far {w : World} {lo hi n0 c0 n1 c1 n2 c2 g j : Nat} {A0 A1 A2 : Option Addr} {t : Ten} (h : OwnT w lo hi A0 n0 c0 A1 n1 c1 A2 n2 c2 t) (u : Value) (hg : g < lo) : OwnT (w.setCell ⟨g, j, none⟩ u) lo hi A0 n0 c0 A1 n1 c1 A2 n2 c2 t :=
  ⟨h.l.far u hg, h.d.far u hg, h.x.far u hg, h.ld, h.lx, h.dx⟩

theorem OwnT.old {w w' : World} {lo hi n0 c0 n1 c1 n2 c2 : Nat} {A0 A1 A2 : Option Addr} {t : Ten} (h : OwnT w lo hi A0 n0 c0 A1 n1 c1 A2 n2 c2 t) (hb : Below w.heap.size w w') : OwnT w' lo hi A0 n0 c0 A1 n1 c1 A2 n2 c2 t :=
  ⟨h.l.old hb, h.d.old hb, h.x.old hb, h.ld, h.lx, h.dx⟩
/-! ### What a call comes to -/

/-- It returns v; old memory is as it was. -/
def RetV (w : World) (v : Value) (e : Ending) (w' : World) : Prop := e = .returned v ∧ Below w.heap.size w w'
/-- It returns a slice of its own that reads xs. -/
def RetI (w : World) (xs : List Int) (e : Ending) (w' : World) : Prop :=
  ∃ A c, e = .returned (.slice A xs.length c) ∧ OwnI w' w.heap.size w'.heap.size A xs.length c xs ∧ Below w.heap.size w w'
/-- It returns a tensor of its own. -/
def RetT (w : World) (t : Ten) (e : Ending) (w' : World) : Prop :=
  ∃ A0 c0 A1 c1 A2 c2, e = .returned (.agg #[.slice A0 t.labels.length c0, .slice A1 t.dims.length c1, .slice A2 t.data.length c2]) ∧
    OwnT w' w.heap.size w'.heap.size A0 t.labels.length c0 A1 t.dims.length c1 A2 t.data.length c2 t ∧ Below w.heap.size w w'
theorem ret_int {k : IntKind} {a b : Int} (h : a = b) : Ending.returned (.int k a) = .returned (.int k b) := by rw [h]
theorem ret_bool {a b : Bool} (h : a = b) : Ending.returned (.bool a) = .returned (.bool b) := by rw [h]
theorem int_info : (Try.prog.info? 3).map (fun i => (i.zero, i.size, i.bytes)) = some (some (.int .i64 0), 1, 8) := by kernel_rfl
/-- The cells of 'make([]int, n)'. -/
def zeros (n : Nat) : Array Value := madeCells #[.int .i64 0] n
theorem zeros_size (n : Nat) : (zeros n).size = n := size_madeCells _ _
theorem zeros_list (n : Nat) : (zeros n).toList = (List.replicate n (0 : Int)).map (.int .i64) := by
  rw [List.map_replicate]; exact toList_madeCells_one _ _
theorem run_make_ints (n c : Nat) (hn : n ≤ c) (hc : c ≤ 1099511627776) (W : World) :
    (Instr.makeSlice 27 (.int .i64 (n : Int)) (.int .i64 (c : Int))).run Try.prog W = .ok (.slice (some ⟨W.heap.size, 0, none⟩) n c) (W.alloc (.cells (zeros c) 3)) := by
  obtain ⟨i, hi, hz0, hz1, hz2⟩ := info_parts int_info
  have hr := run_make (P := Try.prog) W 27 3 i (.int .i64 0) Try.underlying27 hi hz0 .i64 .i64 n c (by omega) (by omega) (by rw [hz2]; omega) (by omega)
  simp only [Int.toNat_natCast, hz1, Nat.mul_one] at hr
  exact hr
theorem OwnI.zeros_ {w : World} {lo : Nat} (n : Nat) (hlo : lo ≤ w.heap.size) (hm : n ≤ 1099511627776) : OwnI (w.alloc (.cells (zeros n) 3)) lo (w.heap.size + 1) (some ⟨w.heap.size, 0, none⟩) n n (List.replicate n 0) :=
  OwnI.of_made (zeros n) hlo (by unfold maxLen; omega) (zeros_size n) (zeros_list n)
end Go.Proofs.Ytjncdanegoileaa

/-
  Contracts of the laws' own helpers on slices of ints: sizes, copies, comparison, marking. No condition but bounds on lengths.
-/
namespace Go.Proofs.Ytjncdanegoileaa
open Go.RowKit

/-- What is left of a budget; -1 where it is used up. -/
def szI (left : Int) (n : Nat) : Int := if left - n < 0 then -1 else left - n
theorem szI_yes {left : Int} {n : Nat} (h : (n : Int) ≤ left) : szI left n = left - n := by unfold szI; rw [if_neg (by omega)]
theorem szI_no {left : Int} {n : Nat} (h : left < (n : Int)) : szI left n = -1 := by unfold szI; rw [if_pos (by omega)]

set_option maxHeartbeats 400000 in
theorem szIntS_any (A : Option Addr) (n c : Nat) (left : Int) (w : World) (h0 : 0 ≤ left) (h1 : left ≤ 1048576) (hn : n ≤ 9223372036854775807) :
    Calls Try.prog 49 #[.slice A n c, .int .i64 left] w fun e w' => e = .returned (.int .i64 (szI left n)) ∧ w = w' := by
  by_cases h : left - (n : Int) < 0
  · have hs := Lib.hid (szI_no (left := left) (n := n) (by omega))
    go_enter Try.func49, Try.ntmps49
    go_wp2
    go_ret
    exact ⟨by rw [hs.out]; rfl, rfl⟩
  · have hs := Lib.hid (szI_yes (left := left) (n := n) (by omega))
    go_enter Try.func49, Try.ntmps49
    go_wp2
    go_ret
    exact ⟨by rw [hs.out]; rfl, rfl⟩

set_option maxHeartbeats 400000 in
theorem toIntS_any (A : Option Addr) (n c : Nat) (xs : List Int) (w : World) (h : IntsAt w w.heap.size A n xs) (hn : n ≤ 1048576) :
    Calls Try.prog 55 #[.slice A n c] w (RetI w xs) := by
  have hlen := Lib.hid h.len
  have hmk := run_make_ints n n (Nat.le_refl _) (by omega)
  have hown := OwnI.zeros_ (w := w) (lo := w.heap.size) n (Nat.le_refl _) (by omega)
  have hb0 : Below w.heap.size w (w.alloc (.cells (zeros n) 3)) := (Below.refl _ _).alloc (Nat.le_refl _) _
  go_enter Try.func55, Try.ntmps55
  go_wp2_with fail
  generalize w.alloc (.cells (zeros n) 3) = w1 at *
  go_loopw [4] (fun i wr => ∃ k : Nat, k ≤ n ∧ i = .int .i64 k ∧ OwnI wr w.heap.size (w.heap.size + 1) (some ⟨w.heap.size, 0, none⟩) n n (xs.take k ++ List.replicate (n - k) 0) ∧ Below w.heap.size w wr) (fun i _ => n - (intOf i).toNat)
  case atStart => exact ⟨0, Nat.zero_le _, rfl, by simpa using hown, hb0⟩
  case round =>
    clear hmk hown hb0
    obtain ⟨k, hk, rfl, hown, hb⟩ := hrel
    by_cases hlt : k < n
    · obtain ⟨b, off, rfl, hbB, hc⟩ := (h.below hb (Nat.le_refl _)).at_ (by omega)
      have hck := hc k hlt
      have hcell := hown.cell hlt
      have hfr := hown.frozen k
      have hst := hown.set k (xs.getD k 0)
      have hb' := hb.setCell (p := ⟨w.heap.size, k, none⟩) (Nat.le_refl _) (.int .i64 (xs.getD k 0))
      obtain ⟨x, hx⟩ : ∃ x, x = xs.getD k 0 := ⟨_, rfl⟩
      rw [← hx] at hck hst hb'
      have HX := Lib.hid hx
      clear hc hown hb hx
      go_wp2
      refine ⟨⟨k + 1, by omega, by go_num, ?_, hb'⟩, by simp [intOf]; omega⟩
      have e := Plain.set_take_rep xs n k 0 hlen.out hlt
      rw [← HX.out] at e
      rw [← e]
      exact hst.1
    · go_wp2
      go_ret
      obtain rfl : k = n := by omega
      have e : xs.take k ++ List.replicate (k - k) 0 = xs := by rw [Nat.sub_self, List.replicate_zero, List.append_nil, List.take_of_length_le (by rw [hlen.out]; exact Nat.le_refl _)]
      rw [e] at hown
      obtain rfl := hlen.out
      exact ⟨_, _, rfl, hown.top, hb⟩

/-- The numbers k, k+1, .. -/
def upto (k : Int) (n : Nat) : List Int := (List.range n).map fun (i : Nat) => k + (i : Int)
/-! ### Tensors -/

def szT (left : Int) (n0 n1 n2 : Nat) : Int := if (n0 : Int) + n1 + n2 ≤ left then left - n0 - n1 - n2 else -1

set_option maxHeartbeats 400000 in
theorem szTensor_any (A0 : Option Addr) (n0 c0 : Nat) (A1 : Option Addr) (n1 c1 : Nat) (A2 : Option Addr) (n2 c2 : Nat) (left : Int) (w : World) (h0 : 0 ≤ left) (h1 : left ≤ 1048576)
    (k0 : n0 ≤ 9223372036854775807) (k1 : n1 ≤ 9223372036854775807) (k2 : n2 ≤ 9223372036854775807) :
    Calls Try.prog 105 #[.agg #[.slice A0 n0 c0, .slice A1 n1 c1, .slice A2 n2 c2], .int .i64 left] w (RetV w (.int .i64 (szT left n0 n1 n2))) := by
  by_cases a0 : (n0 : Int) ≤ left
  · by_cases a1 : (n0 : Int) + n1 ≤ left
    · by_cases a2 : (n0 : Int) + n1 + n2 ≤ left
      · have e : szT left n0 n1 n2 = left - n0 - n1 - n2 := by unfold szT; rw [if_pos (by omega)]
        rw [e]
        clear e
        go_enter Try.func105, Try.ntmps105
        go_wp2_with (go_at_call 49; refine (szIntS_any _ _ _ _ _ (by omega) (by omega) (by omega)).mono ?_; rintro e w' ⟨rfl, rfl⟩; rw [szI_yes (by omega)])
        go_ret
        exact ⟨rfl, (Below.refl _ _).alloc (Nat.le_refl _) _⟩
      · have e : szT left n0 n1 n2 = -1 := by unfold szT; rw [if_neg (by omega)]
        rw [e]
        clear e
        go_enter Try.func105, Try.ntmps105
        go_wp2_with (go_at_call 49; refine (szIntS_any _ _ _ _ _ (by omega) (by omega) (by omega)).mono ?_; rintro e w' ⟨rfl, rfl⟩; first | rw [szI_yes (by omega)] | rw [szI_no (by omega)])
        go_ret
        exact ⟨rfl, (Below.refl _ _).alloc (Nat.le_refl _) _⟩
    · have e : szT left n0 n1 n2 = -1 := by unfold szT; rw [if_neg (by omega)]
      rw [e]
      clear e
      go_enter Try.func105, Try.ntmps105
      go_wp2_with (go_at_call 49; refine (szIntS_any _ _ _ _ _ (by omega) (by omega) (by omega)).mono ?_; rintro e w' ⟨rfl, rfl⟩; first | rw [szI_yes (by omega)] | rw [szI_no (by omega)])
      go_ret
      exact ⟨rfl, (Below.refl _ _).alloc (Nat.le_refl _) _⟩
  · have e : szT left n0 n1 n2 = -1 := by unfold szT; rw [if_neg (by omega)]
    rw [e]
    clear e
    go_enter Try.func105, Try.ntmps105
    go_wp2_with (go_at_call 49; refine (szIntS_any _ _ _ _ _ (by omega) (by omega) (by omega)).mono ?_; rintro e w' ⟨rfl, rfl⟩; first | rw [szI_yes (by omega)] | rw [szI_no (by omega)])
    go_ret
    exact ⟨rfl, (Below.refl _ _).alloc (Nat.le_refl _) _⟩

end Go.Proofs.Ytjncdanegoileaa

/-
  Contracts of the laws' own helpers on tensors: copy, comparison, marking. No condition but bounds on lengths.
-/
namespace Go.Proofs.Ytjncdanegoileaa
open Go.RowKit

set_option maxHeartbeats 800000 in
theorem toTensor_any (A0 : Option Addr) (n0 c0 : Nat) (A1 : Option Addr) (n1 c1 : Nat) (A2 : Option Addr) (n2 c2 : Nat) (t : Ten) (w : World) (h : TenAt w w.heap.size A0 n0 A1 n1 A2 n2 t)
    (k0 : n0 ≤ 1048576) (k1 : n1 ≤ 1048576) (k2 : n2 ≤ 1048576) :
    Calls Try.prog 108 #[.agg #[.slice A0 n0 c0, .slice A1 n1 c1, .slice A2 n2 c2]] w (RetT w t) := by
  go_enter Try.func108, Try.ntmps108
  go_wp2_with fail
  have hb0 : Below w.heap.size w (((w.alloc (.cells #[.slice A0 n0 c0, .slice A1 n1 c1, .slice A2 n2 c2] 129)).alloc (.cells #[.slice none 0 0, .slice none 0 0, .slice none 0 0] 82)).alloc (.cells #[.slice none 0 0, .slice none 0 0, .slice none 0 0] 82)) :=
    (((Below.refl _ _).alloc (Nat.le_refl _) _).alloc (by simp) _).alloc (by simp; omega) _
  refine (toIntS_any _ _ _ t.labels _ ((h.l.below hb0 (Nat.le_refl _)).mono (by simp; omega)) k0).mono ?_
  rintro e w1 ⟨B0, d0, rfl, own0, hb1⟩
  have hz1 : w.heap.size + 3 ≤ w1.heap.size := by have := hb1.size; simpa using this
  have hB1 : Below w.heap.size w w1 := hb0.trans (hb1.mono (by simp; omega))
  obtain ⟨hc1, hf1⟩ := bcell (hb1.mono (B' := w.heap.size + 3) (by simp))
  replace own0 := own0.mono (lo' := w.heap.size + 3) (by simp) (Nat.le_refl _)
  clear hb1 hb0
  go_wp2_with fail
  have hB1' := hB1.setCell (p := ⟨w.heap.size + 1 + 1, 0, none⟩) (by simp; omega) (.slice B0 t.labels.length d0)
  have hs1 : (w1.setCell ⟨w.heap.size + 1 + 1, 0, none⟩ (.slice B0 t.labels.length d0)).heap.size = w1.heap.size := by simp [World.setCell]
  refine (toIntS_any _ _ _ t.dims _ ((h.d.below hB1' (Nat.le_refl _)).mono (by rw [hs1]; omega)) k1).mono ?_
  rintro e w2 ⟨B1, d1, rfl, own1, hb2⟩
  rw [hs1] at own1 hb2
  have hz2 : w1.heap.size ≤ w2.heap.size := by have := hb2.size; rwa [hs1] at this
  have hB2 : Below w.heap.size w w2 := hB1'.trans (hb2.mono (by omega))
  replace own0 := (own0.far (g := w.heap.size + 1 + 1) (j := 0) _ (by omega)).below hb2 (Nat.le_refl _)
  obtain ⟨hc2, hf2⟩ := bcell (hb2.mono (B' := w.heap.size + 3) (by omega))
  clear hb2 hB1 hB1' hs1
  go_wp2_with fail
  have hB2' := hB2.setCell (p := ⟨w.heap.size + 1 + 1, 1, none⟩) (by simp; omega) (.slice B1 t.dims.length d1)
  have hs2 : (w2.setCell ⟨w.heap.size + 1 + 1, 1, none⟩ (.slice B1 t.dims.length d1)).heap.size = w2.heap.size := by simp [World.setCell]
  refine (toIntS_any _ _ _ t.data _ ((h.x.below hB2' (Nat.le_refl _)).mono (by rw [hs2]; omega)) k2).mono ?_
  rintro e w3 ⟨B2, d2, rfl, own2, hb3⟩
  rw [hs2] at own2 hb3
  have hz3 : w2.heap.size ≤ w3.heap.size := by have := hb3.size; rwa [hs2] at this
  have hB3 : Below w.heap.size w w3 := hB2'.trans (hb3.mono (by omega))
  replace own0 := (own0.far (g := w.heap.size + 1 + 1) (j := 1) _ (by omega)).below hb3 (by omega)
  replace own1 := (own1.far (g := w.heap.size + 1 + 1) (j := 1) _ (by omega)).below hb3 (Nat.le_refl _)
  obtain ⟨hc3, hf3⟩ := bcell (hb3.mono (B' := w.heap.size + 3) (by omega))
  clear hb3 hB2 hB2' hs2
  go_wp2_with fail
  refine bodyPost_ret (v := .agg #[.slice B0 t.labels.length d0, .slice B1 t.dims.length d1, .slice B2 t.data.length d2]) (by simp [results, Try.results108, go_sem, hc3, hc2, hc1]) rfl ?_
  have hsz : ((((w3.setCell ⟨w.heap.size + 1 + 1, 2, none⟩ (.slice B2 t.data.length d2)).setCell ⟨w.heap.size + 1, 0, none⟩ (.slice B0 t.labels.length d0)).setCell ⟨w.heap.size + 1, 1, none⟩ (.slice B1 t.dims.length d1)).setCell ⟨w.heap.size + 1, 2, none⟩ (.slice B2 t.data.length d2)).heap.size = w3.heap.size := by simp only [size_setCell]
  have own : OwnT w3 (w.heap.size + 3) w3.heap.size B0 t.labels.length d0 B1 t.dims.length d1 B2 t.data.length d2 t :=
    ⟨own0.mono (Nat.le_refl _) (by omega), own1.mono (by omega) (by omega), own2.mono (by omega) (Nat.le_refl _), own0.apart own1 (Nat.le_refl _), own0.apart own2 (by omega), own1.apart own2 (Nat.le_refl _)⟩
  refine ⟨B0, d0, B1, d1, B2, d2, rfl, ?_, ?_⟩
  · rw [hsz]
    exact ((((own.far _ (by omega)).far _ (by omega)).far _ (by omega)).far _ (by omega)).mono (by omega) (Nat.le_refl _)
  · exact (((hB3.setCell (p := ⟨w.heap.size + 1 + 1, 2, none⟩) (by simp; omega) _).setCell (p := ⟨w.heap.size + 1, 0, none⟩) (by simp) _).setCell (p := ⟨w.heap.size + 1, 1, none⟩) (by simp) _).setCell (p := ⟨w.heap.size + 1, 2, none⟩) (by simp) _

end Go.Proofs.Ytjncdanegoileaa

/-
  The arguments of a law, opened: a slice of ints, a tensor, a ring. No condition.
-/
namespace Go.Proofs.Ytjncdanegoileaa
open Go.ChangeShapes Go.WideShapes Go.ChangeAt Go.RowKit

theorem own : ownKnob Try.prog.godebug = none := by kernel_rfl
theorem laidOut : laidOutB Try.prog = true := by kernel_rfl

def I64 (x : Int) : Prop := -9223372036854775808 ≤ x ∧ x ≤ 9223372036854775807
theorem I64.of_wf {x : Int} (h : (Lit.int .i64 x).wf = true) : I64 x := by
  have h' : (decide ((-9223372036854775808 : Int) ≤ x) && decide (x ≤ (9223372036854775807 : Int))) = true := h
  simpa [I64] using h'

/-- What is known of a slice of ints that came in. -/
structure SlIn (w : World) (A : Option Addr) (n c : Nat) (xs : List Int) : Prop where
  at_ : IntsAt w w.heap.size A n xs
  len : n ≤ 9223372036854775807
  cap : n ≤ c
  wf : ∀ x ∈ xs, I64 x
structure TnIn (w : World) (A0 : Option Addr) (n0 c0 : Nat) (A1 : Option Addr) (n1 c1 : Nat) (A2 : Option Addr) (n2 c2 : Nat) (t : Ten) : Prop where
  l : SlIn w A0 n0 c0 t.labels
  d : SlIn w A1 n1 c1 t.dims
  x : SlIn w A2 n2 c2 t.data
set_option maxRecDepth 100000
section
variable {H : Type} {enc : TypeId × Value → H} {w : World} {base : Nat} {held : Bool} {r : Reach}
end

end Go.Proofs.Ytjncdanegoileaa

/-
  What a law's proof carries from statement to statement: steps that leave old memory alone, arguments, variables that hold copies and results. No condition.
-/
namespace Go.Proofs.Ytjncdanegoileaa
open Go.RowKit

/-- Nothing that was there has turned. -/
def Step (W W' : World) : Prop := Below W.heap.size W W'
section
variable {w W W' W'' : World} {B lo hi n c : Nat} {A : Option Addr} {xs : List Int}
theorem Step.alloc (W : World) (o : Obj) : Step W (W.alloc o) := (Below.refl _ _).alloc (Nat.le_refl _) _
theorem Step.drew (W : World) : Step W W.drew := (Below.refl _ _).drew
theorem Step.trans (h : Step W W') (h' : Step W' W'') : Step W W'' := Below.trans h (Below.mono h' (Below.size h))
theorem Step.size (h : Step W W') : W.heap.size ≤ W'.heap.size := Below.size h
theorem cell_step {a : Addr} {v : Value} (st : Step W W') (m : W.cell? a = some v) : W'.cell? a = some v := (Below.cell st (World.block_lt_of_cell? W a m)).trans m
theorem IntsAt.step (st : Step W W') (h : IntsAt W B A n xs) : IntsAt W' B A n xs :=
  ⟨h.1, fun hn => by
    obtain ⟨b, off, e, hlt, hc⟩ := h.2 hn
    exact ⟨b, off, e, hlt, fun j hj => cell_step st (hc j hj)⟩⟩
theorem IntsAt.top (h : IntsAt W B A n xs) : IntsAt W W.heap.size A n xs :=
  ⟨h.1, fun hn => by
    obtain ⟨b, off, e, hlt, hc⟩ := h.2 hn
    exact ⟨b, off, e, World.block_lt_of_cell? W _ (hc 0 hn), hc⟩⟩
theorem OwnI.step (st : Step W W') (h : OwnI W lo hi A n c xs) : OwnI W' lo hi A n c xs := h.old st
theorem Below.step (st : Step W W') (h : Below w.heap.size w W) : Below w.heap.size w W' := h.trans (Below.mono st h.size)
variable {n0 c0 n1 c1 n2 c2 : Nat} {A0 A1 A2 : Option Addr} {t : Ten}
theorem TenAt.step (st : Step W W') (h : TenAt W B A0 n0 A1 n1 A2 n2 t) : TenAt W' B A0 n0 A1 n1 A2 n2 t := ⟨h.l.step st, h.d.step st, h.x.step st⟩
theorem TenAt.top (h : TenAt W B A0 n0 A1 n1 A2 n2 t) : TenAt W W.heap.size A0 n0 A1 n1 A2 n2 t := ⟨h.l.top, h.d.top, h.x.top⟩
theorem OwnT.step (st : Step W W') (h : OwnT W lo hi A0 n0 c0 A1 n1 c1 A2 n2 c2 t) : OwnT W' lo hi A0 n0 c0 A1 n1 c1 A2 n2 c2 t := h.old st
end

/-! ### What a contract is given: a slice, a tensor that may be read -/

/-- A slice of ints that may be read. -/
structure SlOk (W : World) (A : Option Addr) (n c : Nat) (xs : List Int) : Prop where
  at_ : IntsAt W W.heap.size A n xs
  len : n ≤ 1099511627776
  cap : n ≤ c
  wf : ∀ x ∈ xs, I64 x
structure TnOk (W : World) (A0 : Option Addr) (n0 c0 : Nat) (A1 : Option Addr) (n1 c1 : Nat) (A2 : Option Addr) (n2 c2 : Nat) (t : Ten) : Prop where
  l : SlOk W A0 n0 c0 t.labels
  d : SlOk W A1 n1 c1 t.dims
  x : SlOk W A2 n2 c2 t.data
section
variable {w W W' : World} {lo hi n c : Nat} {A : Option Addr} {xs : List Int} {n0 c0 n1 c1 n2 c2 : Nat} {A0 A1 A2 : Option Addr} {t : Ten}
theorem SlOk.step (st : Step W W') (h : SlOk W A n c xs) : SlOk W' A n c xs := ⟨(h.at_.step st).mono st.size, h.len, h.cap, h.wf⟩
theorem TnOk.step (st : Step W W') (h : TnOk W A0 n0 c0 A1 n1 c1 A2 n2 c2 t) : TnOk W' A0 n0 c0 A1 n1 c1 A2 n2 c2 t := ⟨h.l.step st, h.d.step st, h.x.step st⟩
theorem OwnI.ok (h : OwnI W lo hi A n c xs) (hn : n ≤ 1099511627776) (hw : ∀ x ∈ xs, I64 x) : SlOk W A n c xs := ⟨h.ints.top, hn, h.cap, hw⟩
end

/-! ### Sizes and ranges of what came in -/

structure SlSz (n : Nat) (xs : List Int) : Prop where
  len : xs.length ≤ n
  wf : ∀ x ∈ xs, I64 x
structure TnSz (n : Nat) (t : Ten) : Prop where
  l : SlSz n t.labels
  d : SlSz n t.dims
  x : SlSz n t.data
section
variable {w W W' : World} {lo hi n c m : Nat} {A : Option Addr} {xs : List Int} {n0 c0 n1 c1 n2 c2 : Nat} {A0 A1 A2 : Option Addr} {t : Ten}
theorem SlIn.sz (h : SlIn w A n c xs) (hn : n ≤ m) : SlSz m xs := ⟨by rw [h.at_.len]; exact hn, h.wf⟩
theorem TnIn.sz (h : TnIn w A0 n0 c0 A1 n1 c1 A2 n2 c2 t) (h0 : n0 ≤ m) (h1 : n1 ≤ m) (h2 : n2 ≤ m) : TnSz m t := ⟨h.l.sz h0, h.d.sz h1, h.x.sz h2⟩
end

/-! ### Behind a mark -/
section
variable {w W W' : World} {S : Nat → Prop} {lo hi lo' hi' n c B : Nat} {A : Option Addr} {xs : List Int} {n0 c0 n1 c1 n2 c2 : Nat} {A0 A1 A2 : Option Addr} {t : Ten}
theorem cell_only {b o : Nat} {v : Value} (ho : Only S W W') (hS : ∀ k, S k → lo ≤ k ∧ k < hi) (hb : b < lo ∨ hi ≤ b) (m : W.cell? ⟨b, o, none⟩ = some v) : W'.cell? ⟨b, o, none⟩ = some v :=
  ((ho.cells (b := b) (World.block_lt_of_cell? W _ m) (fun x => by have := hS b x; omega)).1 o).trans m
theorem IntsAt.apart (ho : Only S W W') (hS : ∀ k, S k → lo ≤ k ∧ k < hi) (hB : B ≤ lo) (_hW : B ≤ W.heap.size) (h : IntsAt W B A n xs) : IntsAt W' B A n xs :=
  ⟨h.1, fun h0 => by
    obtain ⟨b, off, e, hlt, hc⟩ := h.2 h0
    exact ⟨b, off, e, hlt, fun j hj => cell_only ho hS (.inl (by omega)) (hc j hj)⟩⟩
theorem TenAt.apart (ho : Only S W W') (hS : ∀ k, S k → lo ≤ k ∧ k < hi) (hB : B ≤ lo) (hW : B ≤ W.heap.size) (h : TenAt W B A0 n0 A1 n1 A2 n2 t) : TenAt W' B A0 n0 A1 n1 A2 n2 t :=
  ⟨h.l.apart ho hS hB hW, h.d.apart ho hS hB hW, h.x.apart ho hS hB hW⟩
theorem OwnI.away (ho : Only S W W') (hS : ∀ k, S k → lo ≤ k ∧ k < hi) (hd : hi' ≤ lo ∨ hi ≤ lo') (h : OwnI W lo' hi' A n c xs) : OwnI W' lo' hi' A n c xs :=
  h.only ho (fun a e x => by have := hS _ x; have := h.lt a e; omega)
theorem OwnT.away (ho : Only S W W') (hS : ∀ k, S k → lo ≤ k ∧ k < hi) (hd : hi' ≤ lo ∨ hi ≤ lo') (h : OwnT W lo' hi' A0 n0 c0 A1 n1 c1 A2 n2 c2 t) : OwnT W' lo' hi' A0 n0 c0 A1 n1 c1 A2 n2 c2 t :=
  ⟨h.l.away ho hS hd, h.d.away ho hS hd, h.x.away ho hS hd, h.ld, h.lx, h.dx⟩
theorem Below.away (ho : Only S W W') (hS : ∀ k, S k → lo ≤ k ∧ k < hi) (hB : w.heap.size ≤ lo) (h : Below w.heap.size w W) : Below w.heap.size w W' := h.trans (ho.below h.size (fun k x => by have := hS k x; omega))
end

/-! ### A variable that holds a tensor of the call's own -/

structure VarT (W0 W : World) (lo hi b : Nat) (A0 : Option Addr) (c0 : Nat) (A1 : Option Addr) (c1 : Nat) (A2 : Option Addr) (c2 : Nat) (t : Ten) : Prop where
  b0 : W.cell? ⟨b, 0, none⟩ = some (.slice A0 t.labels.length c0)
  b1 : W.cell? ⟨b, 1, none⟩ = some (.slice A1 t.dims.length c1)
  b2 : W.cell? ⟨b, 2, none⟩ = some (.slice A2 t.data.length c2)
  own : OwnT W lo hi A0 t.labels.length c0 A1 t.dims.length c1 A2 t.data.length c2 t
  st : Step W0 W
  lo0 : W0.heap.size ≤ lo
  lohi : lo ≤ hi
  hi1 : hi ≤ W.heap.size
  bl : W0.heap.size ≤ b
  bh : b < W.heap.size
  off : b < lo ∨ hi ≤ b
section
variable {W0 W : World} {lo hi b : Nat} {A0 : Option Addr} {c0 : Nat} {A1 : Option Addr} {c1 : Nat} {A2 : Option Addr} {c2 : Nat} {t : Ten}
/-- The variable's block is made last. -/
theorem VarT.last (T : TypeId) (own : OwnT W lo hi A0 t.labels.length c0 A1 t.dims.length c1 A2 t.data.length c2 t) (st : Step W0 W) (h1 : W0.heap.size ≤ lo) (h2 : lo ≤ hi) (h3 : hi ≤ W.heap.size) :
    VarT W0 (W.alloc (.cells #[.slice A0 t.labels.length c0, .slice A1 t.dims.length c1, .slice A2 t.data.length c2] T)) lo hi W.heap.size A0 c0 A1 c1 A2 c2 t := by
  have hs := st.size
  exact ⟨by simp, by simp, by simp, own.step (Step.alloc _ _), st.trans (Step.alloc _ _), h1, h2, by simp; omega, hs, by simp, .inr h3⟩
theorem Step.set {W W' : World} (st : Step W W') {b o : Nat} (hb : W.heap.size ≤ b) (v : Value) : Step W (W'.setCell ⟨b, o, none⟩ v) := Below.setCell st (p := ⟨b, o, none⟩) hb v
theorem cell_set_same {W : World} {b o : Nat} {v u : Value} (h : W.cell? ⟨b, o, none⟩ = some u) : (W.setCell ⟨b, o, none⟩ v).cell? ⟨b, o, none⟩ = some v := World.cell?_setCell_same W _ v h
theorem cell_set_other {W : World} {b o o' : Nat} {v u : Value} (h : W.cell? ⟨b, o, none⟩ = some u) (hne : o' ≠ o) : (W.setCell ⟨b, o', none⟩ v).cell? ⟨b, o, none⟩ = some u :=
  (World.cell?_setCell_other W _ _ v (fun e => hne (by injection e))).trans h
/-- The variable's block was made before the tensor. -/
theorem VarT.first {u0 u1 u2 : Value} (own : OwnT W lo hi A0 t.labels.length c0 A1 t.dims.length c1 A2 t.data.length c2 t) (st : Step W0 W) (h1 : W0.heap.size ≤ b) (h2 : b < lo) (h3 : lo ≤ hi) (h4 : hi ≤ W.heap.size)
    (q0 : W.cell? ⟨b, 0, none⟩ = some u0) (q1 : W.cell? ⟨b, 1, none⟩ = some u1) (q2 : W.cell? ⟨b, 2, none⟩ = some u2) :
    VarT W0 (((W.setCell ⟨b, 0, none⟩ (.slice A0 t.labels.length c0)).setCell ⟨b, 1, none⟩ (.slice A1 t.dims.length c1)).setCell ⟨b, 2, none⟩ (.slice A2 t.data.length c2)) lo hi b A0 c0 A1 c1 A2 c2 t := by
  have hs := st.size
  have hz : (((W.setCell ⟨b, 0, none⟩ (.slice A0 t.labels.length c0)).setCell ⟨b, 1, none⟩ (.slice A1 t.dims.length c1)).setCell ⟨b, 2, none⟩ (.slice A2 t.data.length c2)).heap.size = W.heap.size := by simp only [size_setCell]
  refine ⟨?_, ?_, ?_, ((own.far _ h2).far _ h2).far _ h2, ((st.set h1 _).set h1 _).set h1 _, by omega, h3, by rw [hz]; exact h4, h1, by rw [hz]; omega, .inl h2⟩
  · exact cell_set_other (cell_set_other (cell_set_same q0) (by omega)) (by omega)
  · exact cell_set_other (cell_set_same (cell_set_other q1 (by omega))) (by omega)
  · exact cell_set_same (cell_set_other (cell_set_other q2 (by omega)) (by omega))
end
/-- Behind a draw a step is a step. -/
theorem Step.of_drew {W W' : World} (h : Step W.drew W') : Step W W' := ⟨h.os, h.tape, h.output, h.size, h.block⟩

end Go.Proofs.Ytjncdanegoileaa

/-
  Contracts: the size of a tensor, in the program and in the reference; membership; places. No condition but bounds on lengths.
-/
namespace Go.Proofs.Ytjncdanegoileaa
open Go.RowKit Plain

theorem hasInt_any (A : Option Addr) (n c : Nat) (xs : List Int) (x : Int) (B : Nat) (w : World) (h : IntsAt w B A n xs) (hm : n ≤ 1099511627776) :
    Calls Try.prog 84 #[.slice A n c, .int .i64 x] w fun e w' => e = .returned (.bool (has xs x)) ∧ w = w' := by
  have hlen := Lib.hid h.len
  go_enter Try.func84, Try.ntmps84
  go_wp2
  go_loop [9] (fun i => ∃ k : Nat, k ≤ n ∧ i = .int .i64 k ∧ x ∉ xs.take k) (fun i => n - (intOf i).toNat)
  case atStart => exact ⟨0, Nat.zero_le _, rfl, by simp⟩
  case round =>
    obtain ⟨k, hk, rfl, hno⟩ := hrel
    by_cases hlt : k < n
    · obtain ⟨b, off, rfl, hb, hc⟩ := h.at_ (by omega)
      have hck := hc k hlt
      have hms := Lib.hid (mem_take_succ xs k x (by rw [hlen.out]; exact hlt))
      have hmg := Lib.hid (mem_of_get xs k (by rw [hlen.out]; exact hlt))
      have hno' := Lib.hid hno
      obtain ⟨y, hy⟩ : ∃ y, y = xs.getD k 0 := ⟨_, rfl⟩
      rw [← hy] at hck hms hmg
      by_cases hxy : x = y
      · have ht : (x == y) = true := beq_iff_eq.2 hxy
        have HX := Lib.hid hxy
        clear hc h hno hy hxy
        go_wp2
        go_ret
        exact ⟨ret_bool (by have e := HX.out; have m := hmg.out; exact (has_true.2 (e ▸ m)).symm), rfl⟩
      · have ht : (x == y) = false := beq_eq_false_iff_ne.2 hxy
        have HX := Lib.hid hxy
        clear hc h hno hy hxy
        go_wp2
        go_round
        case rel => exact ⟨k + 1, by omega, by go_num, by rw [hms.out]; intro hh; rcases hh with hh | hh; exact hno'.out hh; exact HX.out hh⟩
        case measure => simp [intOf]; omega
    · have hno' := Lib.hid hno
      clear hno
      go_wp2
      go_ret
      refine ⟨ret_bool ?_, rfl⟩
      obtain rfl : k = n := by omega
      have e := hno'.out
      rw [List.take_of_length_le (by rw [hlen.out]; exact Nat.le_refl _)] at e
      exact (has_false.2 e).symm

theorem l05Find_any (A : Option Addr) (n c : Nat) (xs : List Int) (x : Int) (B : Nat) (w : World) (h : IntsAt w B A n xs) (hm : n ≤ 1099511627776) :
    Calls Try.prog 88 #[.slice A n c, .int .i64 x] w fun e w' => e = .returned (.int .i64 (place xs x)) ∧ w = w' := by
  have hlen := Lib.hid h.len
  go_enter Try.func88, Try.ntmps88
  go_wp2
  go_loop [9] (fun i => ∃ k : Nat, k ≤ n ∧ i = .int .i64 k ∧ x ∉ xs.take k) (fun i => n - (intOf i).toNat)
  case atStart => exact ⟨0, Nat.zero_le _, rfl, by simp⟩
  case round =>
    obtain ⟨k, hk, rfl, hno⟩ := hrel
    by_cases hlt : k < n
    · obtain ⟨b, off, rfl, hb, hc⟩ := h.at_ (by omega)
      have hck := hc k hlt
      have hms := Lib.hid (mem_take_succ xs k x (by rw [hlen.out]; exact hlt))
      have hno' := Lib.hid hno
      have hpl := Lib.hid (@place_yes xs k (by rw [hlen.out]; exact hlt))
      obtain ⟨y, hy⟩ : ∃ y, y = xs.getD k 0 := ⟨_, rfl⟩
      rw [← hy] at hck hms hpl
      by_cases hxy : x = y
      · have ht : (y == x) = true := beq_iff_eq.2 hxy.symm
        have HX := Lib.hid hxy
        clear hc h hno hy hxy
        go_wp2
        go_ret
        refine ⟨ret_int ?_, rfl⟩
        have e := HX.out
        have e2 := hno'.out
        subst e
        exact (hpl.out e2).symm
      · have ht : (y == x) = false := beq_eq_false_iff_ne.2 (Ne.symm hxy)
        have HX := Lib.hid hxy
        clear hc h hno hy hxy
        go_wp2
        go_round
        case rel => exact ⟨k + 1, by omega, by go_num, by rw [hms.out]; intro hh; rcases hh with hh | hh; exact hno'.out hh; exact HX.out hh⟩
        case measure => simp [intOf]; omega
    · have hno' := Lib.hid hno
      clear hno
      go_wp2
      go_ret
      refine ⟨ret_int ?_, rfl⟩
      obtain rfl : k = n := by omega
      have e := hno'.out
      rw [List.take_of_length_le (by rw [hlen.out]; exact Nat.le_refl _)] at e
      exact (place_no e).symm

theorem l01In_yes (x a b : Int) (w : World) (h1 : a ≤ x) (h2 : x ≤ b) : Calls Try.prog 50 #[.int .i64 x, .int .i64 a, .int .i64 b] w fun e w' => e = .returned (.bool true) ∧ w = w' := by
  go_enter Try.func50, Try.ntmps50
  go_wp2
  go_ret
  exact ⟨rfl, rfl⟩
theorem l01In_no (x a b : Int) (w : World) (h : ¬ (a ≤ x ∧ x ≤ b)) : Calls Try.prog 50 #[.int .i64 x, .int .i64 a, .int .i64 b] w fun e w' => e = .returned (.bool false) ∧ w = w' := by
  by_cases h1 : a ≤ x
  · have h2 : ¬ x ≤ b := fun h2 => h ⟨h1, h2⟩
    clear h
    go_enter Try.func50, Try.ntmps50
    go_wp2
    go_ret
    exact ⟨rfl, rfl⟩
  · clear h
    go_enter Try.func50, Try.ntmps50
    go_wp2
    go_ret
    exact ⟨rfl, rfl⟩

end Go.Proofs.Ytjncdanegoileaa

/-
  Contracts: TensorSize, in the program and in the reference. No condition but bounds on lengths.
-/
namespace Go.Proofs.Ytjncdanegoileaa
open Go.RowKit Plain

/-- The value of a tensor. -/
abbrev tv (A0 : Option Addr) (n0 c0 : Nat) (A1 : Option Addr) (n1 c1 : Nat) (A2 : Option Addr) (n2 c2 : Nat) : Value := .agg #[.slice A0 n0 c0, .slice A1 n1 c1, .slice A2 n2 c2]

set_option maxHeartbeats 800000 in
theorem iTensorSize (A0 : Option Addr) (n0 c0 : Nat) (A1 : Option Addr) (n1 c1 : Nat) (A2 : Option Addr) (n2 c2 : Nat) (ls ds : List Int) (w : World) (hl : IntsAt w w.heap.size A0 n0 ls) (hd : IntsAt w w.heap.size A1 n1 ds)
    (k0 : n0 ≤ 1099511627776) (k1 : n1 ≤ 1099511627776) (q0 : n0 ≤ c0) :
    Calls Try.prog 111 #[tv A0 n0 c0 A1 n1 c1 A2 n2 c2] w (RetV w (.int .i64 (tsize ls ds))) := by
  have hll := Lib.hid hl.len
  have hdl := Lib.hid hd.len
  by_cases hbig : 12 < n0
  · have hr := Lib.hid (@tsize_len1 ls ds (by rw [hll.out]; exact hbig))
    go_enter Try.func111, Try.ntmps111
    go_wp2
    go_ret
    exact ⟨ret_int hr.out.symm, (Below.refl _ _).alloc (Nat.le_refl _) _⟩
  by_cases hne : n0 = n1
  case neg =>
    have hr := Lib.hid (@tsize_len2 ls ds (by rw [hll.out, hdl.out]; exact hne))
    have ht : ((n0 : Int) != (n1 : Int)) = true := by rw [bne_iff_ne]; omega
    go_enter Try.func111, Try.ntmps111
    go_wp2
    go_ret
    exact ⟨ret_int hr.out.symm, (Below.refl _ _).alloc (Nat.le_refl _) _⟩
  subst hne
  go_enter Try.func111, Try.ntmps111
  go_wp2
  go_loop [3, 23] (fun s i => ∃ k : Nat, k ≤ n0 ∧ i = .int .i64 k ∧ s = .int .i64 (prodI (ds.take k)) ∧ 1 ≤ prodI (ds.take k) ∧ prodI (ds.take k) ≤ 4096 ∧ ∀ j, j < k → axAt ls ds j) (fun _ i => n0 - (intOf i).toNat)
  case atStart => exact ⟨0, Nat.zero_le _, rfl, rfl, by simp [prodI], by simp [prodI], fun j hj => absurd hj (by omega)⟩
  case round =>
    obtain ⟨k, hk, rfl, rfl, hp1, hp2, hax⟩ := hrel
    have HAX := Lib.hid hax
    clear hax
    by_cases hlt : k < n0
    · have hbel : Below w.heap.size w (w.alloc (.cells #[.slice A0 n0 c0, .slice A1 n0 c1, .slice A2 n2 c2] 82)) := (Below.refl _ _).alloc (Nat.le_refl _) _
      obtain ⟨b, off, rfl, hb, hc⟩ := (hl.below hbel (Nat.le_refl _)).at_ (by omega)
      obtain ⟨b', off', rfl, hb', hc'⟩ := (hd.below hbel (Nat.le_refl _)).at_ (by omega)
      have hck := hc k hlt
      have hck' := hc' k hlt
      have htk := (hl.below hbel (Nat.le_refl _)).take (k := k) (by omega)
      have hbad := Lib.hid (fun h => @tsize_ax ls ds k (by rw [hll.out]; exact hlt) h)
      have hbig2 := Lib.hid (fun h => @tsize_big ls ds k (by rw [hll.out]; exact hlt) (by rw [hll.out, hdl.out]) h)
      have hsuc := Lib.hid (prodI_take_succ ds k (by rw [hdl.out]; exact hlt))
      have hdef := Lib.hid (axAt_has ls ds k)
      generalize hx : ls.getD k 0 = x at hck hbad hdef
      generalize hy : ds.getD k 0 = y at hck' hbig2 hsuc hdef
      generalize hp : prodI (ds.take k) = p at *
      clear hx hy hp hc hc'
      have hi : (k : Int) < (n0 : Int) := by omega
      have hkc : k ≤ c0 := by omega
      by_cases hgx : 0 ≤ x ∧ x ≤ 99 ∧ has (ls.take k) x = false ∧ 1 ≤ y ∧ y ≤ 8
      · obtain ⟨g1, g2, g3, g4, g5⟩ := hgx
        have hq1 : 1 ≤ p * y := by have := Int.mul_pos (a := p) (b := y) (by omega) (by omega); omega
        have hq2 : p * y ≤ 32768 := by have := Int.mul_le_mul (a := p) (b := y) (c := 4096) (d := 8) hp2 g5 (by omega) (by omega); omega
        by_cases hq : 4096 < p * y
        · go_wp2_with (go_at_call 84; refine (hasInt_any _ _ _ (ls.take k) x w.heap.size _ htk (by omega)).mono ?_; rintro e w' ⟨rfl, rfl⟩)
          go_ret
          exact ⟨ret_int (hbig2.out hq).symm, hbel⟩
        · go_wp2_with (go_at_call 84; refine (hasInt_any _ _ _ (ls.take k) x w.heap.size _ htk (by omega)).mono ?_; rintro e w' ⟨rfl, rfl⟩)
          go_round
          case rel =>
            refine ⟨k + 1, by omega, by go_num, by rw [hsuc.out], by rw [hsuc.out]; exact hq1, by rw [hsuc.out]; omega, fun j hj => ?_⟩
            rcases Nat.lt_or_ge j k with h1 | h1
            · exact HAX.out j h1
            · obtain rfl : j = k := by omega
              exact hdef.out.2 ⟨g1, g2, g3, g4, g5⟩
          case measure => simp [intOf]; omega
      · have hb' := hbad.out (fun hh => hgx (hdef.out.1 hh))
        rw [hb']
        have HG := Lib.hid hgx
        clear hgx hdef hbig2 hbad hb' hsuc HAX
        go_wp2_with (go_at_call 84; refine (hasInt_any _ _ _ (ls.take k) x w.heap.size _ htk (by omega)).mono ?_; rintro e w' ⟨rfl, rfl⟩)
        all_goals first
          | (exfalso; have h1 : (0 ≤ x ∧ x ≤ 99) ∧ has (ls.take k) x = false := by assumption
             exact HG.out ⟨h1.1.1, h1.1.2, h1.2, by omega, by omega⟩)
          | (go_ret; exact ⟨rfl, hbel⟩)
    · go_wp2
      go_ret
      obtain rfl : k = n0 := by omega
      have e : ds.take k = ds := List.take_of_length_le (by rw [hdl.out]; exact Nat.le_refl _)
      rw [e] at hp1 hp2 ⊢
      exact ⟨ret_int (tsize_good (by rw [hll.out]; omega) (by rw [hll.out, hdl.out]) (by rw [hll.out]; exact HAX.out) hp2).symm, (Below.refl _ _).alloc (Nat.le_refl _) _⟩

end Go.Proofs.Ytjncdanegoileaa

/-
  Contracts: the reference's l05Axes, l05Product, TensorSize. No condition but bounds on lengths.
-/
namespace Go.Proofs.Ytjncdanegoileaa
open Go.RowKit Plain

def axB (ls ds : List Int) : Bool := decide (axOk ls ds)
theorem axB_no1 {ls ds : List Int} (h : 12 < ls.length) : axB ls ds = false := by unfold axB; rw [decide_eq_false_iff_not]; intro h1; have := h1.1; omega
theorem axB_no2 {ls ds : List Int} (h : ls.length ≠ ds.length) : axB ls ds = false := by unfold axB; rw [decide_eq_false_iff_not]; intro h1; exact h h1.2.1
theorem axB_no3 {ls ds : List Int} (k : Nat) (hk : k < ls.length) (h : ¬ axAt ls ds k) : axB ls ds = false := by unfold axB; rw [decide_eq_false_iff_not]; intro h1; exact h (h1.2.2 k hk)
theorem axB_yes {ls ds : List Int} (h0 : ls.length ≤ 12) (h1 : ls.length = ds.length) (h2 : ∀ k, k < ls.length → axAt ls ds k) : axB ls ds = true := by unfold axB; rw [decide_eq_true_iff]; exact ⟨h0, h1, h2⟩

set_option maxHeartbeats 800000 in
theorem l05Axes_any (A0 : Option Addr) (n0 c0 : Nat) (A1 : Option Addr) (n1 c1 : Nat) (ls ds : List Int) (B : Nat) (w : World) (hl : IntsAt w B A0 n0 ls) (hd : IntsAt w B A1 n1 ds)
    (k0 : n0 ≤ 1099511627776) (k1 : n1 ≤ 1099511627776) (q0 : n0 ≤ c0) :
    Calls Try.prog 141 #[.slice A0 n0 c0, .slice A1 n1 c1] w fun e w' => e = .returned (.bool (axB ls ds)) ∧ w = w' := by
  have hll := Lib.hid hl.len
  have hdl := Lib.hid hd.len
  by_cases hbig : 12 < n0
  · have hr := Lib.hid (@axB_no1 ls ds (by rw [hll.out]; exact hbig))
    go_enter Try.func141, Try.ntmps141
    go_wp2
    go_ret
    exact ⟨ret_bool hr.out.symm, rfl⟩
  by_cases hne : n0 = n1
  case neg =>
    have hr := Lib.hid (@axB_no2 ls ds (by rw [hll.out, hdl.out]; exact hne))
    have ht : ((n0 : Int) != (n1 : Int)) = true := by rw [bne_iff_ne]; omega
    go_enter Try.func141, Try.ntmps141
    go_wp2
    go_ret
    exact ⟨ret_bool hr.out.symm, rfl⟩
  subst hne
  go_enter Try.func141, Try.ntmps141
  go_wp2
  go_loop [19] (fun i => ∃ k : Nat, k ≤ n0 ∧ i = .int .i64 k ∧ ∀ j, j < k → axAt ls ds j) (fun i => n0 - (intOf i).toNat)
  case atStart => exact ⟨0, Nat.zero_le _, rfl, fun j hj => absurd hj (by omega)⟩
  case round =>
    obtain ⟨k, hk, rfl, hax⟩ := hrel
    have HAX := Lib.hid hax
    clear hax
    by_cases hlt : k < n0
    · obtain ⟨b, off, rfl, hb, hc⟩ := hl.at_ (by omega)
      obtain ⟨b', off', rfl, hb', hc'⟩ := hd.at_ (by omega)
      have hck := hc k hlt
      have hck' := hc' k hlt
      have htk := hl.take (k := k) (by omega)
      have hbad := Lib.hid (fun h => @axB_no3 ls ds k (by rw [hll.out]; exact hlt) h)
      have hdef := Lib.hid (show axAt ls ds k ↔ 0 ≤ ls.getD k 0 ∧ ls.getD k 0 ≤ 99 ∧ 1 ≤ ds.getD k 0 ∧ ds.getD k 0 ≤ 8 ∧ ls.getD k 0 ∉ ls.take k from Iff.rfl)
      generalize hx : ls.getD k 0 = x at hck hbad hdef
      generalize hy : ds.getD k 0 = y at hck' hdef
      clear hx hy hc hc'
      have hi : (k : Int) < (n0 : Int) := by omega
      have hkc : k ≤ c0 := by omega
      have hpl := Lib.hid (@place_neg (ls.take k) x)
      by_cases hgx : 0 ≤ x ∧ x ≤ 99
      · obtain ⟨g1, g2⟩ := hgx
        by_cases hgy : 1 ≤ y ∧ y ≤ 8
        · obtain ⟨g3, g4⟩ := hgy
          by_cases hgp : place (ls.take k) x < 0
          · go_wp2_with (first
              | (go_at_call 50; refine (l01In_yes _ _ _ _ (by omega) (by omega)).mono ?_; rintro e w' ⟨rfl, rfl⟩)
              | (go_at_call 88; refine (l05Find_any _ _ _ (ls.take k) x B _ htk (by omega)).mono ?_; rintro e w' ⟨rfl, rfl⟩))
            go_round
            case rel =>
              refine ⟨k + 1, by omega, by go_num, fun j hj => ?_⟩
              rcases Nat.lt_or_ge j k with h1 | h1
              · exact HAX.out j h1
              · obtain rfl : j = k := by omega
                exact hdef.out.2 ⟨g1, g2, g3, g4, hpl.out.1 hgp⟩
            case measure => simp [intOf]; omega
          · have hb' := Lib.hid (hbad.out (fun hh => hgp (hpl.out.2 (hdef.out.1 hh).2.2.2.2)))
            clear hdef
            go_wp2_with (first
              | (go_at_call 50; refine (l01In_yes _ _ _ _ (by omega) (by omega)).mono ?_; rintro e w' ⟨rfl, rfl⟩)
              | (go_at_call 88; refine (l05Find_any _ _ _ (ls.take k) x B _ htk (by omega)).mono ?_; rintro e w' ⟨rfl, rfl⟩))
            go_ret
            exact ⟨ret_bool hb'.out.symm, rfl⟩
        · have hb' := Lib.hid (hbad.out (fun hh => hgy ⟨(hdef.out.1 hh).2.2.1, (hdef.out.1 hh).2.2.2.1⟩))
          have HG := Lib.hid hgy
          clear hgy
          go_wp2_with (first
              | (go_at_call 50; first | (refine (l01In_yes _ _ _ _ (by omega) (by omega)).mono ?_; rintro e w' ⟨rfl, rfl⟩) | (refine (l01In_no _ _ _ _ HG.out).mono ?_; rintro e w' ⟨rfl, rfl⟩)))
          go_ret
          exact ⟨ret_bool hb'.out.symm, rfl⟩
      · have hb' := Lib.hid (hbad.out (fun hh => hgx ⟨(hdef.out.1 hh).1, (hdef.out.1 hh).2.1⟩))
        have HG := Lib.hid hgx
        clear hgx
        go_wp2_with (go_at_call 50; refine (l01In_no _ _ _ _ HG.out).mono ?_; rintro e w' ⟨rfl, rfl⟩)
        go_ret
        exact ⟨ret_bool hb'.out.symm, rfl⟩
    · go_wp2
      go_ret
      obtain rfl : k = n0 := by omega
      exact ⟨ret_bool (axB_yes (by rw [hll.out]; omega) (by rw [hll.out, hdl.out]) (by rw [hll.out]; exact HAX.out)).symm, rfl⟩

theorem l05Product_any (A : Option Addr) (n c : Nat) (ds : List Int) (lim : Int) (B : Nat) (w : World) (h : IntsAt w B A n ds) (hn : n ≤ 1099511627776) (hds : ∀ d ∈ ds, 1 ≤ d ∧ d ≤ 8) (h1 : 0 ≤ lim) (h2 : lim ≤ 1099511627776) :
    Calls Try.prog 125 #[.slice A n c, .int .i64 lim] w fun e w' => e = .returned (.int .i64 (min (prodI ds) (lim + 1))) ∧ w = w' := by
  have hlen := Lib.hid h.len
  have HDS := Lib.hid hds
  clear hds
  go_enter Try.func125, Try.ntmps125
  go_wp2
  go_loop [5, 10] (fun p i => ∃ k : Nat, k ≤ n ∧ i = .int .i64 k ∧ p = .int .i64 (min (prodI (ds.take k)) (lim + 1))) (fun _ i => n - (intOf i).toNat)
  case atStart => exact ⟨0, Nat.zero_le _, rfl, by simp [prodI]; omega⟩
  case round =>
    obtain ⟨k, hk, rfl, rfl⟩ := hrel
    have hp1 := prodI_pos (ds.take k) (fun d hd => (HDS.out d (List.mem_of_mem_take hd)).1)
    by_cases hlt : k < n
    · obtain ⟨b, off, rfl, hb, hc⟩ := h.at_ (by omega)
      have hck := hc k hlt
      have hsuc := Lib.hid (prodI_take_succ ds k (by rw [hlen.out]; exact hlt))
      have hyb := HDS.out _ (mem_of_get ds k (by rw [hlen.out]; exact hlt))
      generalize hy : ds.getD k 0 = y at hck hsuc hyb
      generalize hp : prodI (ds.take k) = p at *
      obtain ⟨g1, g2⟩ := hyb
      have hmm := Lib.hid (min_mul p y (lim + 1) (by omega) (by omega))
      obtain ⟨q, hq⟩ : ∃ q, q = min p (lim + 1) := ⟨_, rfl⟩
      rw [← hq] at hmm ⊢
      have hq1 : 1 ≤ q := by omega
      have hq2 : q ≤ lim + 1 := by omega
      have hqy1 : 1 ≤ q * y := by have := Int.mul_pos (a := q) (b := y) (by omega) (by omega); omega
      have hqy2 : q * y ≤ (lim + 1) * 8 := Int.mul_le_mul hq2 g2 (by omega) (by omega)
      have hi : (k : Int) < (n : Int) := by omega
      clear hc hy hp hq
      go_wp2
      refine ⟨⟨k + 1, by omega, by go_num, ?_⟩, by simp [intOf]; omega⟩
      rw [hsuc.out, ← hmm.out]
      congr 1
      split <;> omega
    · go_wp2
      go_ret
      obtain rfl : k = n := by omega
      have e : ds.take k = ds := List.take_of_length_le (by rw [hlen.out]; exact Nat.le_refl _)
      exact ⟨ret_int (by rw [e]), rfl⟩

theorem sTensorSize (A0 : Option Addr) (n0 c0 : Nat) (A1 : Option Addr) (n1 c1 : Nat) (A2 : Option Addr) (n2 c2 : Nat) (ls ds : List Int) (w : World) (hl : IntsAt w w.heap.size A0 n0 ls) (hd : IntsAt w w.heap.size A1 n1 ds)
    (k0 : n0 ≤ 1099511627776) (k1 : n1 ≤ 1099511627776) (q0 : n0 ≤ c0) :
    Calls Try.prog 119 #[.agg #[.slice A0 n0 c0, .slice A1 n1 c1, .slice A2 n2 c2]] w (RetV w (.int .i64 (tsize ls ds))) := by
  have hbel : Below w.heap.size w (w.alloc (.cells #[.slice A0 n0 c0, .slice A1 n1 c1, .slice A2 n2 c2] 82)) := (Below.refl _ _).alloc (Nat.le_refl _) _
  have hl' := hl.below hbel (Nat.le_refl _)
  have hd' := hd.below hbel (Nat.le_refl _)
  by_cases hax : axOk ls ds
  · have hb : axB ls ds = true := decide_eq_true hax
    by_cases hp : prodI ds ≤ 4096
    · have hr := Lib.hid (tsize_good hax.1 hax.2.1 hax.2.2 hp)
      have hm := Lib.hid (show min (prodI ds) (4096 + 1) = prodI ds by omega)
      have HAX := Lib.hid hax
      clear hax
      go_enter Try.func119, Try.ntmps119
      go_wp2_with (first
        | (go_at_call 141; refine (l05Axes_any _ _ _ _ _ _ ls ds w.heap.size _ hl' hd' k0 k1 q0).mono ?_; rintro e w' ⟨rfl, rfl⟩)
        | (go_at_call 125; refine (l05Product_any _ _ _ ds 4096 w.heap.size _ hd' k1 HAX.out.dim (by omega) (by omega)).mono ?_; rintro e w' ⟨rfl, rfl⟩; rw [hm.out]))
      go_ret
      exact ⟨ret_int hr.out.symm, hbel⟩
    · have hr := Lib.hid (show tsize ls ds = -1 by unfold tsize; rw [if_neg (fun h => hp h.2)])
      have hm := Lib.hid (show min (prodI ds) (4096 + 1) = 4097 by omega)
      have HAX := Lib.hid hax
      clear hax hp
      go_enter Try.func119, Try.ntmps119
      go_wp2_with (first
        | (go_at_call 141; refine (l05Axes_any _ _ _ _ _ _ ls ds w.heap.size _ hl' hd' k0 k1 q0).mono ?_; rintro e w' ⟨rfl, rfl⟩)
        | (go_at_call 125; refine (l05Product_any _ _ _ ds 4096 w.heap.size _ hd' k1 HAX.out.dim (by omega) (by omega)).mono ?_; rintro e w' ⟨rfl, rfl⟩; rw [hm.out]))
      go_ret
      exact ⟨ret_int hr.out.symm, hbel⟩
  · have hb : axB ls ds = false := decide_eq_false hax
    have hr := Lib.hid (show tsize ls ds = -1 by unfold tsize; rw [if_neg (fun h => hax h.1)])
    clear hax
    go_enter Try.func119, Try.ntmps119
    go_wp2_with (go_at_call 141; refine (l05Axes_any _ _ _ _ _ _ ls ds w.heap.size _ hl' hd' k0 k1 q0).mono ?_; rintro e w' ⟨rfl, rfl⟩)
    go_ret
    exact ⟨ret_int hr.out.symm, hbel⟩

end Go.Proofs.Ytjncdanegoileaa

/-
  The contracts of TensorSize in the form in which the laws use them. No condition.
-/
namespace Go.Proofs.Ytjncdanegoileaa
open Go.RowKit Plain

theorem iTensorSize_c {W : World} {A0 : Option Addr} {n0 c0 : Nat} {A1 : Option Addr} {n1 c1 : Nat} {A2 : Option Addr} {n2 c2 : Nat} {t : Ten} (h : TnOk W A0 n0 c0 A1 n1 c1 A2 n2 c2 t) :
    Calls Try.prog 111 #[.agg #[.slice A0 n0 c0, .slice A1 n1 c1, .slice A2 n2 c2]] W (RetV W (.int .i64 (tsize t.labels t.dims))) :=
  iTensorSize _ _ _ _ _ _ _ _ _ _ _ _ h.l.at_ h.d.at_ h.l.len h.d.len h.l.cap
theorem sTensorSize_c {W : World} {A0 : Option Addr} {n0 c0 : Nat} {A1 : Option Addr} {n1 c1 : Nat} {A2 : Option Addr} {n2 c2 : Nat} {t : Ten} (h : TnOk W A0 n0 c0 A1 n1 c1 A2 n2 c2 t) :
    Calls Try.prog 119 #[.agg #[.slice A0 n0 c0, .slice A1 n1 c1, .slice A2 n2 c2]] W (RetV W (.int .i64 (tsize t.labels t.dims))) :=
  sTensorSize _ _ _ _ _ _ _ _ _ _ _ _ h.l.at_ h.d.at_ h.l.len h.d.len h.l.cap
end Go.Proofs.Ytjncdanegoileaa

/-
  LIFT, part 28: slices of ints, tensors and rings as data; the contracts of the hand-made walks as contracts on data. No condition.
-/
namespace Go.Proofs.Ytjncdanegoileaa
open Go.RowKit Go.Lift

def topL (w : World) : Labels := fun b => if b < w.heap.size then .im else .off
def ringA (k p n : Int) : AV := .agg [.d (.int k), .d (.int p), .d (.int n)]
def tenA (t : Ten) : AV := .agg [.d (ints t.labels), .d (ints t.dims), .d (ints t.data)]

def ownT (k : Nat) (t : Ten) : AV := .agg [.own k 0 t.labels.length, .own (k + 1) 0 t.dims.length, .own (k + 2) 0 t.data.length]
def stoF (t : Ten) : Sto := [some ⟨1, false, iv t.labels⟩, some ⟨1, false, iv t.dims⟩, some ⟨1, false, iv t.data⟩]
def stoT (t : Ten) : Sto := [some ⟨1, true, iv t.labels⟩, some ⟨1, true, iv t.dims⟩, some ⟨1, true, iv t.data⟩]

section
variable {w : World} {γ : Labels} {φ : Nat → Nat} {s : St} {I : Nat → Prop} {xs : List Int}
theorem rdL_iff : ∀ {xs : List Int} {b o : Nat}, RdL w I (dv xs) b o ↔ ∀ j, j < xs.length → w.cell? ⟨b, o + j, none⟩ = some (.int .i64 (xs.getD j 0))
  | [], b, o => by simp [dv, RdL]
  | x :: l, b, o => by
    have ih := @rdL_iff l b (o + 1)
    simp only [dv, List.map_cons, RdL, Rd] at ih ⊢
    constructor
    · rintro ⟨⟨v, h1, rfl⟩, h2⟩ j hj
      cases j with
      | zero => simpa using h1
      | succ j => have := ih.1 h2 j (by simpa using hj); simpa [Nat.add_assoc, Nat.add_comm 1 j] using this
    · intro h
      refine ⟨⟨_, by simpa using h 0 (by simp), rfl⟩, ih.2 fun j hj => ?_⟩
      have := h (j + 1) (by simpa using hj)
      simpa [Nat.add_assoc, Nat.add_comm 1 j] using this
theorem Rd.ok {v : Value} (h : Rd w (Im w γ) (ints xs) v) (hn : xs.length ≤ 1099511627776) (hw : ∀ x ∈ xs, I64 x) : ∃ A c, v = .slice A xs.length c ∧ SlOk w A xs.length c xs := by
  simp only [ints, Rd] at h
  obtain ⟨A, c, rfl, hc, h⟩ := h
  refine ⟨A, c, rfl, ⟨rfl, fun h0 => ?_⟩, hn, hc, hw⟩
  rcases h with ⟨h, _⟩ | ⟨b, o, rfl, hb, h⟩
  · omega
  · exact ⟨b, o, rfl, hb.1, rdL_iff.1 h⟩
theorem SlIn.rd {A : Option Addr} {n c : Nat} (h : SlIn w A n c xs) : Rd w (Im w (topL w)) (ints xs) (.slice A n c) := by
  obtain ⟨⟨h1, h2⟩, _, h3, _⟩ := h
  subst h1
  simp only [ints, Rd]
  refine ⟨A, c, rfl, h3, ?_⟩
  by_cases h0 : 0 < xs.length
  · obtain ⟨b, o, rfl, hb, hc⟩ := h2 h0
    exact .inr ⟨b, o, rfl, ⟨hb, by simp [topL, hb]⟩, rdL_iff.2 hc⟩
  · left
    have : xs = [] := List.eq_nil_of_length_eq_zero (by omega)
    subst this
    exact ⟨rfl, rfl⟩
end
/-- What a contract needs of a list: it is not too long, and its members are machine integers. -/
structure Sz (m : Nat) (xs : List Int) : Prop where
  len : xs.length ≤ m
  wf : ∀ x ∈ xs, I64 x
structure TSz (m : Nat) (t : Ten) : Prop where
  l : Sz m t.labels
  d : Sz m t.dims
  x : Sz m t.data
section
variable {w : World} {γ : Labels} {φ : Nat → Nat} {s : St} {m : Nat} {xs : List Int} {t : Ten}
theorem rel_int {v : Value} {x : Int} (h : Rel w γ φ s (.d (.int x)) v) : v = .int .i64 x := by simpa only [Rel, Rd] using h
theorem rel_ring {v : Value} {k p n : Int} (h : Rel w γ φ s (ringA k p n) v) : v = .agg #[.int .i64 k, .int .i64 p, .int .i64 n] := by
  simp only [ringA, Rel, RelL, Rd] at h
  obtain ⟨vs, rfl, _, _, h0, rfl, _, _, rfl, rfl, _, _, rfl, rfl, rfl⟩ := h
  congr 1
  exact Array.toList_inj.1 (by simpa using h0)
theorem rel_ten {v : Value} (h : Rel w γ φ s (tenA t) v) (hs : TSz 1099511627776 t) : ∃ A0 c0 A1 c1 A2 c2, v = .agg #[.slice A0 t.labels.length c0, .slice A1 t.dims.length c1, .slice A2 t.data.length c2] ∧
    TnOk w A0 t.labels.length c0 A1 t.dims.length c1 A2 t.data.length c2 t := by
  simp only [tenA, Rel, RelL] at h
  obtain ⟨vs, rfl, _, _, h0, r0, _, _, rfl, r1, _, _, rfl, r2, rfl⟩ := h
  obtain ⟨A0, c0, rfl, o0⟩ := Rd.ok r0 hs.l.len hs.l.wf
  obtain ⟨A1, c1, rfl, o1⟩ := Rd.ok r1 hs.d.len hs.d.wf
  obtain ⟨A2, c2, rfl, o2⟩ := Rd.ok r2 hs.x.len hs.x.wf
  exact ⟨A0, c0, A1, c1, A2, c2, congrArg Value.agg (Array.toList_inj.1 (by simpa using h0)), o0, o1, o2⟩
theorem rel1 {a : AV} {vals : List Value} (h : RelL w γ φ s [a] vals) : ∃ v, vals = [v] ∧ Rel w γ φ s a v := by
  simp only [RelL] at h
  obtain ⟨v, _, rfl, h, rfl⟩ := h
  exact ⟨v, rfl, h⟩
theorem rel2 {a b : AV} {vals : List Value} (h : RelL w γ φ s [a, b] vals) : ∃ v u, vals = [v, u] ∧ Rel w γ φ s a v ∧ Rel w γ φ s b u := by
  simp only [RelL] at h
  obtain ⟨v, _, rfl, h, u, _, rfl, h', rfl⟩ := h
  exact ⟨v, u, rfl, h, h'⟩
theorem rv_int (x : Int) : ∀ w γ φ s, Rel w γ φ s (.d (.int x)) (.int .i64 x) := fun w γ φ s => by simp only [Rel, Rd]
theorem rv_bool (x : Bool) : ∀ w γ φ s, Rel w γ φ s (.d (.bool x)) (.bool x) := fun w γ φ s => by simp only [Rel, Rd]
end
def markL (xs : List Int) (k : Int) : List Int := (List.range xs.length).map fun (i : Nat) => k + (i : Int)
theorem markL_len (xs : List Int) (k : Int) : (markL xs k).length = xs.length := by simp [markL]
theorem markL_take (xs : List Int) (k : Int) : (markL xs k).take xs.length = markL xs k := by rw [← markL_len xs k, List.take_length]
def markT (t : Ten) (m : Int) : Ten := ⟨markL t.labels m, markL t.dims (m + t.labels.length), markL t.data (m + t.labels.length + t.dims.length)⟩
theorem SlIn.size {w : World} {A : Option Addr} {n c : Nat} {xs : List Int} (h : SlIn w A n c xs) : Sz 9223372036854775807 xs := ⟨by rw [h.1.1]; exact h.2, h.4⟩
attribute [go_sem] ownT stoT stoF tenA ringA markL_len markL_take markT
end Go.Proofs.Ytjncdanegoileaa

/-
  Lists of which a part has been written: the first k members are the new ones. No condition.
-/
namespace Go.Proofs.Ytjncdanegoileaa

theorem Sz.up {m : Nat} {xs : List Int} (h : Sz 1048576 xs) (hm : 1048576 ≤ m := by omega) : Sz m xs := ⟨Nat.le_trans h.len hm, h.wf⟩
theorem TSz.up {m : Nat} {t : Ten} (h : TSz 1048576 t) (hm : 1048576 ≤ m := by omega) : TSz m t := ⟨h.l.up hm, h.d.up hm, h.x.up hm⟩
/-- The first k members of l, then those of r. -/
def mix (l r : List Int) (k : Nat) : List Int := l.take k ++ r.drop k
section
variable {l r : List Int} {k : Nat}
theorem mix_zero : mix l r 0 = r := by simp [mix]
theorem mix_full (h : r.length ≤ k) (h' : l.length ≤ k) : mix l r k = l := by simp [mix, List.drop_eq_nil_of_le h, List.take_of_length_le h']
theorem mix_len (h : l.length = r.length) : (mix l r k).length = l.length := by simp [mix]; omega
theorem mix_next {x : Int} (h : l.length = r.length) (hx : l[k]? = some x) : (mix l r k).take k ++ [x] ++ (mix l r k).drop (k + 1) = mix l r (k + 1) := by
  have hk : k < l.length := (List.getElem?_eq_some_iff.1 hx).1
  have e : x = l[k] := by rw [List.getElem?_eq_getElem hk] at hx; simpa using hx.symm
  subst e
  unfold mix
  rw [List.take_append_of_le_length (by simp; omega), List.take_of_length_le (by simp; omega), List.drop_append, List.drop_eq_nil_of_le (by simp; omega), List.nil_append, List.drop_drop, List.take_succ_eq_append_getElem hk,
    List.append_assoc, List.append_assoc, List.length_take, show k + (k + 1 - min k l.length) = k + 1 by omega]
/-- One cell written. -/
theorem put_set {n : Nat} {x : Int} {xs : List Int} (h : n < xs.length) : xs.take n ++ [x] ++ xs.drop (n + 1) = xs.set n x := by
  rw [List.set_eq_take_append_cons_drop, if_pos h, List.append_assoc]
  rfl
end
end Go.Proofs.Ytjncdanegoileaa

/-
  Lists: members, places, what is filtered, joined axes. No condition.
-/
namespace Go.Proofs.Ytjncdanegoileaa
open Plain

theorem take_ss {α : Type} {xs : List α} {k : Nat} (h : k < xs.length) : xs.take (k + 1) = xs.take k ++ [xs[k]] := List.take_succ_eq_append_getElem h
theorem filter_yes {α : Type} {xs : List α} {k : Nat} {p : α → Bool} (h : k < xs.length) (hp : p xs[k] = true) : (xs.take (k + 1)).filter p = (xs.take k).filter p ++ [xs[k]] := by
  rw [take_ss h, List.filter_append]; simp [hp]
theorem filter_no {α : Type} {xs : List α} {k : Nat} {p : α → Bool} (h : k < xs.length) (hp : p xs[k] = false) : (xs.take (k + 1)).filter p = (xs.take k).filter p := by
  rw [take_ss h, List.filter_append]; simp [hp]
theorem filter_len {α : Type} (xs : List α) (k : Nat) (p : α → Bool) : ((xs.take k).filter p).length ≤ xs.length := by
  have := List.length_filter_le p (xs.take k)
  have := List.length_take_le k xs
  simp at *; omega
theorem getD_of {xs : List Int} {k : Nat} (h : k < xs.length) : xs.getD k 0 = xs[k] := by simp [h]
theorem place_at {xs : List Int} {k : Nat} (hk : k < xs.length) (h : xs[k] ∉ xs.take k) : place xs xs[k] = k := by
  have := place_yes (xs := xs) (k := k) hk (by rw [getD_of hk]; exact h)
  rwa [getD_of hk] at this
theorem place_mem {xs : List Int} {x : Int} (h : x ∈ xs) : ∃ k : Nat, ∃ hk : k < xs.length, place xs x = k ∧ xs[k] = x ∧ x ∉ xs.take k := by
  refine ⟨xs.idxOf x, List.idxOf_lt_length_of_mem h, by simp [place, h], List.getElem_idxOf _, fun hm => ?_⟩
  have h1 : xs.idxOf x = (xs.take (xs.idxOf x) ++ xs.drop (xs.idxOf x)).idxOf x := by rw [List.take_append_drop]
  rw [List.idxOf_append, if_pos hm] at h1
  have h2 := List.idxOf_lt_length_of_mem hm
  rw [List.length_take] at h2
  omega
theorem not_mem_take {xs : List Int} {k : Nat} {x : Int} (h : k < xs.length) (h1 : x ∉ xs.take k) (h2 : x ≠ xs[k]) : x ∉ xs.take (k + 1) := by
  rw [take_ss h, List.mem_append]; simp [h1, h2]

/-! ### Joined axes -/
def dimAt (t : Ten) (l : Int) : Int := t.dims.getD (place t.labels l).toNat 0
def joinL (a b : List Int) : List Int := a ++ b.filter fun x => !has a x
def joinD (a b : Ten) : List Int := (joinL a.labels b.labels).map fun l => if has a.labels l = true then dimAt a l else dimAt b l
def joinOk (a b : Ten) : Bool := (joinL a.labels b.labels).all fun l => !(has a.labels l && has b.labels l && dimAt a l != dimAt b l)
theorem Plain.axOk.len {ls ds : List Int} (h : axOk ls ds) : ls.length = ds.length := h.2.1
theorem Plain.axOk.fresh {ls ds : List Int} (h : axOk ls ds) {k : Nat} (hk : k < ls.length) : ls[k] ∉ ls.take k := by
  have := (h.2.2 k hk).2.2.2.2
  rwa [getD_of hk] at this
theorem dimAt_get {t : Ten} (h : t.labels.length = t.dims.length) {l : Int} (hl : l ∈ t.labels) : ∃ i : Nat, i < t.labels.length ∧ i < t.dims.length ∧ place t.labels l = i ∧ t.dims[i]? = some (dimAt t l) := by
  obtain ⟨i, hi, e, _, _⟩ := place_mem hl
  refine ⟨i, hi, by omega, e, ?_⟩
  have hi' : i < t.dims.length := by omega
  simp [dimAt, e, hi']
theorem dimAt_at {t : Ten} (h : axOk t.labels t.dims) {k : Nat} (hk : k < t.labels.length) (hk' : k < t.dims.length) : dimAt t t.labels[k] = t.dims[k] := by
  simp [dimAt, place_at hk (h.fresh hk), hk']
theorem dims_map {t : Ten} (h : axOk t.labels t.dims) : t.labels.map (dimAt t) = t.dims := by
  refine List.ext_getElem (by simp [h.len]) fun k h1 h2 => ?_
  rw [List.getElem_map]
  exact dimAt_at h (by simpa using h1) h2
theorem mem_joinL {a b : List Int} {x : Int} : x ∈ joinL a b ↔ x ∈ a ∨ x ∈ b := by
  simp only [joinL, List.mem_append, List.mem_filter, Bool.not_eq_true', has_false]
  by_cases h : x ∈ a <;> simp [h]
theorem dimAt_bd {t : Ten} (h : axOk t.labels t.dims) {l : Int} (hl : l ∈ t.labels) : 1 ≤ dimAt t l ∧ dimAt t l ≤ 8 := by
  obtain ⟨i, _, hi, _, e⟩ := dimAt_get h.len hl
  rw [List.getElem?_eq_getElem hi] at e
  simp at e
  rw [← e]
  exact h.dim _ (List.getElem_mem _)
/-- The joined labels, as the second tensor's labels are met one by one. -/
def joinLT (a b : List Int) (k : Nat) : List Int := a ++ (b.take k).filter fun x => !has a x
theorem joinLT_zero (a b : List Int) : joinLT a b 0 = a := by simp [joinLT]
theorem joinLT_all (a b : List Int) : joinLT a b b.length = joinL a b := by simp [joinLT, joinL]
theorem joinLT_yes {a b : List Int} {k : Nat} (h : k < b.length) (hm : b[k] ∈ a) : joinLT a b (k + 1) = joinLT a b k := by
  rw [joinLT, filter_no (p := fun x => !has a x) h (by rw [has_true.2 hm]; rfl)]; rfl
theorem joinLT_no {a b : List Int} {k : Nat} (h : k < b.length) (hm : b[k] ∉ a) : joinLT a b (k + 1) = joinLT a b k ++ [b[k]] := by
  rw [joinLT, filter_yes (p := fun x => !has a x) h (by rw [has_false.2 hm]; rfl), ← List.append_assoc]; rfl
theorem joinLT_len (a b : List Int) (k : Nat) : (joinLT a b k).length ≤ a.length + b.length := by
  have := filter_len b k fun x => !has a x
  simp only [joinLT, List.length_append]; omega
theorem joinLT_fresh {a b : List Int} {k : Nat} (h : k < b.length) (hf : b[k] ∉ b.take k) (hm : b[k] ∉ a) : b[k] ∉ joinLT a b k := by
  simp only [joinLT, List.mem_append, List.mem_filter, not_or]
  exact ⟨hm, fun h => hf h.1⟩
end Go.Proofs.Ytjncdanegoileaa

/-
  Plain lists: products in a ring. No condition.
-/
namespace Go.Proofs.Ytjncdanegoileaa
open Plain
set_option linter.unusedSimpArgs false
set_option linter.unusedVariables false

/-- One pair of coefficients. -/
def mulAt (r : Rg) (out : List Int) (i j : Nat) (a b : Int) : List Int :=
  if i + j < out.length then out.set (i + j) ((out.getD (i + j) 0 + a * b).tmod r.p)
  else if r.k = 8 then out.set (i + j - 4) ((out.getD (i + j - 4) 0 + (r.p - a) * b).tmod r.p) else out
def mulRowTo (r : Rg) (y : List Int) (i : Nat) (a : Int) (out : List Int) : Nat → List Int
  | 0 => out
  | j + 1 => mulAt r (mulRowTo r y i a out j) i j a (y.getD j 0)
def mulTo (r : Rg) (x y out : List Int) : Nat → List Int
  | 0 => out
  | i + 1 => mulRowTo r y i (x.getD i 0) (mulTo r x y out i) y.length
/-- The same as the program does it. -/
def iMulAt (r : Rg) (out : List Int) (i j : Nat) (a b : Int) : List Int :=
  if i + j < out.length then out.set (i + j) ((out.getD (i + j) 0 + (a * b).tmod r.p).tmod r.p)
  else if r.k = 8 then out.set (i + j - 4) ((out.getD (i + j - 4) 0 + r.p - (a * b).tmod r.p).tmod r.p) else out
def iMulRowTo (r : Rg) (y : List Int) (i : Nat) (a : Int) (out : List Int) : Nat → List Int
  | 0 => out
  | j + 1 => iMulAt r (iMulRowTo r y i a out j) i j a (y.getD j 0)
def iMulTo (r : Rg) (x y out : List Int) : Nat → List Int
  | 0 => out
  | i + 1 => iMulRowTo r y i (x.getD i 0) (iMulTo r x y out i) y.length

/-- All members are below p. -/
def lowP (p : Int) (xs : List Int) : Prop := ∀ k, k < xs.length → 0 ≤ xs.getD k 0 ∧ xs.getD k 0 < p
theorem lowP.at {p : Int} {xs : List Int} (h : lowP p xs) (hp : 0 < p) (k : Nat) : 0 ≤ xs.getD k 0 ∧ xs.getD k 0 < p := by
  by_cases hk : k < xs.length
  · exact h k hk
  · simp [List.getD_eq_getElem?_getD, List.getElem?_eq_none (Nat.le_of_not_lt hk), hp]
theorem lowP.mem {p : Int} {xs : List Int} (h : lowP p xs) : ∀ x ∈ xs, 0 ≤ x ∧ x < p := by
  intro x hx
  obtain ⟨k, hk, rfl⟩ := List.getElem_of_mem hx
  have := h k hk
  simpa [List.getD_eq_getElem?_getD, hk] using this
theorem lowP.set {p : Int} {xs : List Int} {n : Nat} {v : Int} (h : lowP p xs) (hv : 0 ≤ v ∧ v < p) : lowP p (xs.set n v) := by
  intro k hk
  have hk' : k < xs.length := by simpa using hk
  rw [List.getD_eq_getElem?_getD, List.getElem?_set]
  split
  · split
    · simpa using hv
    · simp; omega
  · exact h k hk'
theorem lowP_rep {p : Int} (hp : 0 < p) (n : Nat) : lowP p (List.replicate n 0) := by
  intro k hk
  simp [List.getD_eq_getElem?_getD]
  have : k < n := by simpa using hk
  simp [this, hp]
theorem mul_nn {a b p : Int} (ha : 0 ≤ a ∧ a < p) (hb : 0 ≤ b ∧ b < p) (hp : p ≤ 1000003) : 0 ≤ a * b ∧ a * b ≤ 1000006000009 := by
  refine ⟨Int.mul_nonneg ha.1 hb.1, ?_⟩
  have h1 : a * b ≤ a * 1000003 := Int.mul_le_mul_of_nonneg_left (by omega) ha.1
  omega
theorem tm {a p : Int} (h : 0 ≤ a) : a.tmod p = a % p := Int.tmod_eq_emod_of_nonneg h
theorem tmb {a p : Int} (h : 0 ≤ a) (hp : 0 < p) : 0 ≤ a.tmod p ∧ a.tmod p < p := by
  rw [tm h]; exact ⟨Int.emod_nonneg _ (by omega), Int.emod_lt_of_pos _ hp⟩
theorem mulAt_eq {r : Rg} {out : List Int} {i j : Nat} {a b : Int} (hp : 2 ≤ r.p ∧ r.p ≤ 1000003) (ho : lowP r.p out) (ha : 0 ≤ a ∧ a < r.p) (hb : 0 ≤ b ∧ b < r.p) :
    iMulAt r out i j a b = mulAt r out i j a b ∧ lowP r.p (mulAt r out i j a b) ∧ (mulAt r out i j a b).length = out.length := by
  have hab := mul_nn ha hb hp.2
  have hm := tmb hab.1 (show 0 < r.p by omega)
  have h1 := ho.at (by omega) (i + j)
  have h2 := ho.at (by omega) (i + j - 4)
  have hpa : 0 ≤ (r.p - a) * b := Int.mul_nonneg (by omega) hb.1
  unfold iMulAt mulAt
  refine ⟨?_, ?_, ?_⟩
  · split
    · congr 1
      rw [tm hab.1] at hm ⊢
      rw [tm (show 0 ≤ out.getD (i + j) 0 + a * b % r.p by omega), tm (show 0 ≤ out.getD (i + j) 0 + a * b by omega)]
      rw [Int.add_emod, Int.emod_emod_of_dvd _ (Int.dvd_refl _), ← Int.add_emod]
    · split
      · congr 1
        rw [tm hab.1] at hm ⊢
        rw [tm (show 0 ≤ out.getD (i + j - 4) 0 + r.p - a * b % r.p by omega), tm (show 0 ≤ out.getD (i + j - 4) 0 + (r.p - a) * b by omega)]
        have e : (r.p - a) * b = r.p * b - a * b := Int.sub_mul ..
        rw [e]
        have e1 : out.getD (i + j - 4) 0 + r.p - a * b % r.p = out.getD (i + j - 4) 0 + (r.p - a * b % r.p) := by omega
        have e2 : out.getD (i + j - 4) 0 + (r.p * b - a * b) = (out.getD (i + j - 4) 0 - a * b) + r.p * b := by omega
        rw [e1, e2, Int.add_mul_emod_self_left]
        have e3 : out.getD (i + j - 4) 0 + (r.p - a * b % r.p) = (out.getD (i + j - 4) 0 - a * b % r.p) + r.p * 1 := by omega
        rw [e3, Int.add_mul_emod_self_left, Int.sub_emod, Int.emod_emod_of_dvd _ (Int.dvd_refl _), ← Int.sub_emod]
      · rfl
  · split
    · exact ho.set (tmb (by omega) (by omega))
    · split
      · exact ho.set (tmb (by omega) (by omega))
      · exact ho
  · split
    · simp
    · split <;> simp
theorem mulRowTo_eq {r : Rg} {y out : List Int} {i : Nat} {a : Int} (hp : 2 ≤ r.p ∧ r.p ≤ 1000003) (ho : lowP r.p out) (ha : 0 ≤ a ∧ a < r.p) (hy : lowP r.p y) :
    ∀ j, iMulRowTo r y i a out j = mulRowTo r y i a out j ∧ lowP r.p (mulRowTo r y i a out j) ∧ (mulRowTo r y i a out j).length = out.length
  | 0 => ⟨rfl, ho, rfl⟩
  | j + 1 => by
    obtain ⟨h1, h2, h3⟩ := mulRowTo_eq hp ho ha hy j
    obtain ⟨h4, h5, h6⟩ := mulAt_eq (i := i) (j := j) hp h2 ha (hy.at (by omega) j)
    refine ⟨?_, h5, h6.trans h3⟩
    rw [iMulRowTo, h1, h4]; rfl
theorem mulTo_eq {r : Rg} {x y out : List Int} (hp : 2 ≤ r.p ∧ r.p ≤ 1000003) (ho : lowP r.p out) (hx : lowP r.p x) (hy : lowP r.p y) :
    ∀ i, iMulTo r x y out i = mulTo r x y out i ∧ lowP r.p (mulTo r x y out i) ∧ (mulTo r x y out i).length = out.length
  | 0 => ⟨rfl, ho, rfl⟩
  | i + 1 => by
    obtain ⟨h1, h2, h3⟩ := mulTo_eq hp ho hx hy i
    obtain ⟨h4, h5, h6⟩ := mulRowTo_eq (i := i) hp h2 (hx.at (by omega) i) hy y.length
    refine ⟨?_, h5, h6.trans h3⟩
    rw [iMulTo, h1, h4]; rfl

/-- The bits of both, as the machine has it. -/
def andI (a b : Int) : Int := IntKind.i64.wrap (BitVec.ofInt 64 a &&& BitVec.ofInt 64 b).toNat
def orI (a b : Int) : Int := IntKind.i64.wrap (BitVec.ofInt 64 a ||| BitVec.ofInt 64 b).toNat
/-- The product of two elements. -/
def mulE (r : Rg) (x y : List Int) : List Int :=
  if r.k = 1 ∨ r.k = 5 then [min (x.getD 0 0) (y.getD 0 0)]
  else if r.k = 2 then [(x.getD 0 0 * y.getD 0 0).tmod r.p]
  else if r.k = 3 then [min (x.getD 0 0 * y.getD 0 0) r.p]
  else if r.k = 4 then [min (x.getD 0 0 + y.getD 0 0) r.p]
  else if r.k = 6 then [andI (x.getD 0 0) (y.getD 0 0)]
  else mulTo r x y (List.replicate x.length 0) x.length
theorem wrap_bd (x : Int) : I64 (IntKind.i64.wrap x) := by
  rw [IntKind.wrap_i64]; constructor <;> omega
/-- What is known of an element that is right. -/
theorem elem_low {r : Rg} {x : List Int} (hr : ringOk r = true) (h : fits r x) (hk : r.k = 2 ∨ r.k = 7 ∨ r.k = 8) : lowP r.p x ∧ 2 ≤ r.p ∧ r.p ≤ 1000003 := by
  have ht : top r = r.p - 1 := by unfold top; rw [if_neg (by omega), if_neg (by omega), if_neg (by omega)]
  have hp : 2 ≤ r.p ∧ r.p ≤ 1000003 := by rcases ringOk_cases hr with h | h | h | h | h | h | h | h <;> first | omega | exact isPrime_bd h.2.1
  exact ⟨fun k hk => by have := h k hk; omega, hp⟩
theorem elem_wd1 {r : Rg} (hr : ringOk r = true) (hk : ¬ (r.k = 7 ∨ r.k = 8)) : width r = 1 := by
  unfold width
  rw [if_neg (by omega), if_neg (by omega)]
theorem mulE_facts {r : Rg} {x y : List Int} {wd : Nat} (hr : ringOk r = true) (hw : width r = wd) (hx : fits r x) (hy : fits r y) (lx : x.length = wd) (ly : y.length = wd) : (mulE r x y).length = wd ∧ ∀ z ∈ mulE r x y, I64 z := by
  have hwb := width_bd hr
  have htb := top_bd hr
  have x0 := hx 0 (by omega)
  have y0 := hy 0 (by omega)
  unfold mulE
  by_cases h7 : r.k = 7 ∨ r.k = 8
  · rw [if_neg (by omega), if_neg (by omega), if_neg (by omega), if_neg (by omega), if_neg (by omega)]
    obtain ⟨hlx, hp⟩ := elem_low hr hx (by omega)
    obtain ⟨hly, _⟩ := elem_low hr hy (by omega)
    obtain ⟨_, h1, h2⟩ := mulTo_eq hp (lowP_rep (by omega) x.length) hlx hly x.length
    refine ⟨by rw [h2]; simpa using lx, fun z hz => ?_⟩
    have := h1.mem z hz
    exact ⟨by omega, by omega⟩
  · have hw1 := elem_wd1 hr h7
    have hwd : wd = 1 := by omega
    subst hwd
    have hmm : 0 ≤ x.getD 0 0 * y.getD 0 0 := Int.mul_nonneg x0.1 y0.1
    have hmb : x.getD 0 0 * y.getD 0 0 ≤ x.getD 0 0 * 1048576 := Int.mul_le_mul_of_nonneg_left (by omega) x0.1
    split
    · exact ⟨rfl, fun z hz => by simp only [List.mem_singleton] at hz; subst hz; exact ⟨by omega, by omega⟩⟩
    · split
      · refine ⟨rfl, fun z hz => ?_⟩
        simp only [List.mem_singleton] at hz
        obtain ⟨_, hp⟩ := elem_low hr hx (by omega)
        have := tmb hmm (show 0 < r.p by omega)
        subst hz
        exact ⟨by omega, by omega⟩
      · have hp : r.k = 3 ∨ r.k = 4 → 1 ≤ r.p ∧ r.p ≤ 1000000 := fun h => by rcases ringOk_cases hr with h | h | h | h | h | h | h | h <;> omega
        split
        · refine ⟨rfl, fun z hz => ?_⟩
          simp only [List.mem_singleton] at hz
          have := hp (.inl (by assumption))
          subst hz
          exact ⟨by omega, by omega⟩
        · split
          · refine ⟨rfl, fun z hz => ?_⟩
            simp only [List.mem_singleton] at hz
            have := hp (.inr (by assumption))
            subst hz
            exact ⟨by omega, by omega⟩
          · rw [if_pos (by rcases ringOk_cases hr with h | h | h | h | h | h | h | h <;> omega)]
            refine ⟨rfl, fun z hz => ?_⟩
            simp only [List.mem_singleton] at hz
            subst hz
            exact wrap_bd _
end Go.Proofs.Ytjncdanegoileaa

/-
  Plain lists: how far the next value of a label is, offsets as sums, the next index. No condition.
-/
namespace Go.Proofs.Ytjncdanegoileaa
open Plain
set_option linter.unusedSimpArgs false
set_option linter.unusedVariables false

def sumI (xs : List Int) : Int := xs.foldr (· + ·) 0
theorem sumI_cons (x : Int) (xs : List Int) : sumI (x :: xs) = x + sumI xs := rfl
theorem sumI_map_add {α : Type} (f g : α → Int) : ∀ (l : List α), sumI (l.map fun x => f x + g x) = sumI (l.map f) + sumI (l.map g)
  | [] => rfl
  | x :: l => by simp only [List.map_cons, sumI_cons, sumI_map_add f g l]; omega
theorem sumI_map_zero {α : Type} (f : α → Int) : ∀ (l : List α), (∀ x ∈ l, f x = 0) → sumI (l.map f) = 0
  | [], _ => rfl
  | x :: l, h => by simp only [List.map_cons, sumI_cons, h x (by simp), sumI_map_zero f l (fun y hy => h y (by simp [hy]))]; rfl
theorem sumI_map_one (c l0 : Int) : ∀ (l : List Int), l.Nodup → l0 ∈ l → sumI (l.map fun x => if x = l0 then c else 0) = c
  | [], _, h => by cases h
  | x :: l, hn, hm => by
    simp only [List.nodup_cons] at hn
    simp only [List.map_cons, sumI_cons]
    by_cases hx : x = l0
    · subst hx
      rw [if_pos rfl, sumI_map_zero _ l (fun y hy => if_neg fun (e : y = x) => hn.1 (e ▸ hy))]
      omega
    · rw [if_neg hx, sumI_map_one c l0 l hn.2 (by simpa [Ne.symm hx] using hm)]
      omega
/-- How far the next value of a label is. -/
def strideL : List Int → List Int → Int → Int
  | l :: ls, d :: ds, x => if x = l then prodI ds else strideL ls ds x
  | _, _, _ => 0
theorem strideL_no : ∀ (ls ds : List Int) (x : Int), x ∉ ls → strideL ls ds x = 0
  | [], _, _, _ => by simp [strideL]
  | _ :: _, [], _, _ => by simp [strideL]
  | l :: ls, d :: ds, x, h => by
    simp only [List.mem_cons, not_or] at h
    rw [strideL, if_neg h.1, strideL_no ls ds x h.2]
/-- The offset of an index, from its head. -/
def offsR : List Int → List Int → Int
  | d :: ds, i :: is => i * prodI ds + offsR ds is
  | _, _ => 0
theorem offs_R {ds is : List Int} (h : is.length = ds.length) : offs ds is = offsR ds is := by
  have key : ∀ k, k ≤ ds.length → offsTo ds is k * prodI (ds.drop k) + offsR (ds.drop k) (is.drop k) = offsR ds is := by
    intro k
    induction k with
    | zero => intro _; simp [offsTo]
    | succ k ih =>
      intro hk
      rw [← ih (by omega), offsTo_succ]
      have e1 : ds.drop k = ds[k] :: ds.drop (k + 1) := List.drop_eq_getElem_cons (by omega)
      have e2 : is.drop k = is[k] :: is.drop (k + 1) := List.drop_eq_getElem_cons (by omega)
      rw [e1, e2, offsR, prodI_cons, getD_of (show k < ds.length by omega), getD_of (show k < is.length by omega), Int.add_mul, Int.mul_assoc]
      omega
  have := key ds.length (Nat.le_refl _)
  rw [← this]
  simp [offs, prodI, offsR]
/-- The offset as a sum over labels. -/
theorem offsR_sum (v : Int → Int) (L : List Int) (hL : L.Nodup) : ∀ (ls ds : List Int), ls.length = ds.length → ls.Nodup → (∀ l ∈ ls, l ∈ L) → offsR ds (ls.map v) = sumI (L.map fun l => strideL ls ds l * v l)
  | [], [], _, _, _ => by simp only [List.map_nil, offsR, strideL, Int.zero_mul]; exact (sumI_map_zero _ _ (fun _ _ => rfl)).symm
  | [], _ :: _, h, _, _ => by simp at h
  | _ :: _, [], h, _, _ => by simp at h
  | l0 :: ls, d :: ds, h, hn, hs => by
    simp only [List.nodup_cons] at hn
    simp only [List.map_cons, offsR]
    rw [offsR_sum v L hL ls ds (by simpa using h) hn.2 (fun l hl => hs l (by simp [hl]))]
    rw [← sumI_map_one (v l0 * prodI ds) l0 L hL (hs l0 (by simp)), ← sumI_map_add]
    congr 1
    refine List.map_congr_left fun l _ => ?_
    by_cases e : l = l0
    · subst e
      rw [strideL, if_pos rfl, if_pos rfl, strideL_no ls ds l hn.1]
      rw [Int.mul_comm]; omega
    · rw [strideL, if_neg e, if_neg e]; omega
theorem nodup_of_fresh {ls : List Int} (h : ∀ k (hk : k < ls.length), ls[k] ∉ ls.take k) : ls.Nodup := by
  rw [List.Nodup, List.pairwise_iff_getElem]
  intro i j hi hj hij e
  refine h j hj ?_
  rw [← e]
  exact List.mem_iff_getElem.2 ⟨i, by simp; omega, by simp⟩
theorem axOk_nodup {ls ds : List Int} (h : axOk ls ds) : ls.Nodup := nodup_of_fresh fun k hk => h.fresh hk
/-- A sum of products. -/
def dotI : List Int → List Int → Int
  | a :: xs, b :: ys => a * b + dotI xs ys
  | _, _ => 0
theorem dotI_map (f g : Int → Int) : ∀ L : List Int, dotI (L.map f) (L.map g) = sumI (L.map fun l => f l * g l)
  | [] => rfl
  | l :: L => by simp only [List.map_cons, dotI, sumI_cons, dotI_map f g L]
/-- What a list of values gives each label. -/
def atL (L xs : List Int) (l : Int) : Int := xs.getD (place L l).toNat 0
theorem atL_map {L xs : List Int} (hn : L.Nodup) (h : xs.length = L.length) : L.map (atL L xs) = xs := by
  refine List.ext_getElem (by simp [h]) fun k h1 h2 => ?_
  have hk : k < L.length := by simpa using h1
  have hf : L[k] ∉ L.take k := by
    intro hm
    obtain ⟨i, hi, e⟩ := List.mem_iff_getElem.1 hm
    have hi' : i < k := by simp at hi; omega
    simp at e
    exact (List.pairwise_iff_getElem.1 hn) i k (by omega) hk hi' e
  simp only [List.getElem_map, atL, place_at hk hf, Int.toNat_natCast]
  exact getD_of (by omega)

/-! ### The next index -/
theorem digits_nil (n : Int) : digits [] n = [] := rfl
theorem digits_cons (d : Int) (ds : List Int) (n : Int) : digits (d :: ds) n = ((n / prodI ds) % d) :: digits ds n := by
  simp only [digits, List.length_cons, List.range_succ_eq_map, List.map_cons, List.map_map]
  have h0 : digit (d :: ds) n 0 = n / prodI ds % d := by simp [digit]
  rw [h0]
  congr 1
theorem digits_bd : ∀ (ds : List Int) (n : Int), (∀ d ∈ ds, 1 ≤ d) → ∀ k, k < ds.length → 0 ≤ (digits ds n).getD k 0 ∧ (digits ds n).getD k 0 < ds.getD k 0
  | [], _, _, k, hk => by simp at hk
  | d :: ds, n, h, 0, _ => by
    have hd := h d (by simp)
    rw [digits_cons]
    simp only [List.getD_cons_zero]
    exact ⟨Int.emod_nonneg _ (by omega), Int.emod_lt_of_pos _ (by omega)⟩
  | d :: ds, n, h, k + 1, hk => by
    rw [digits_cons]
    simp only [List.getD_cons_succ]
    exact digits_bd ds n (fun y hy => h y (by simp [hy])) k (by simpa using hk)
/-! ### Lists of the same labels -/
theorem sub_back : ∀ {L ls : List Int}, L.Nodup → (∀ x ∈ L, x ∈ ls) → ls.length ≤ L.length → ∀ x ∈ ls, x ∈ L
  | [], ls, _, _, h, x, hx => by
    have : ls = [] := List.eq_nil_of_length_eq_zero (by simpa using h)
    rw [this] at hx; cases hx
  | l :: L, ls, hn, hs, h, x, hx => by
    simp only [List.nodup_cons] at hn
    have hl : l ∈ ls := hs l (by simp)
    by_cases e : x = l
    · simp [e]
    · have := sub_back (L := L) (ls := ls.erase l) hn.2 (fun y hy => (List.mem_erase_of_ne (fun (e : y = l) => hn.1 (e ▸ hy))).2 (hs y (by simp [hy]))) (by rw [List.length_erase_of_mem hl]; simp at h; omega) x ((List.mem_erase_of_ne e).2 hx)
      simp [this]
theorem prodI_erase {f : Int → Int} : ∀ {ls : List Int} {l : Int}, l ∈ ls → prodI (ls.map f) = f l * prodI ((ls.erase l).map f)
  | [], _, h => by cases h
  | x :: ls, l, h => by
    by_cases e : x = l
    · subst e
      simp [prodI_cons]
    · have h' : l ∈ ls := by simpa [Ne.symm e] using h
      rw [List.erase_cons_tail (by simpa using e), List.map_cons, List.map_cons, prodI_cons, prodI_cons, prodI_erase h', ← Int.mul_assoc, ← Int.mul_assoc, Int.mul_comm (f x)]
theorem prodI_sub_le {f : Int → Int} : ∀ {L ls : List Int}, L.Nodup → (∀ x ∈ L, x ∈ ls) → (∀ x ∈ ls, 1 ≤ f x) → prodI (L.map f) ≤ prodI (ls.map f)
  | [], ls, _, _, hf => by
    have := prodI_pos (ls.map f) (fun d hd => by simp only [List.mem_map] at hd; obtain ⟨x, hx, rfl⟩ := hd; exact hf x hx)
    simpa [prodI] using this
  | l :: L, ls, hn, hs, hf => by
    simp only [List.nodup_cons] at hn
    have hl : l ∈ ls := hs l (by simp)
    have ih := prodI_sub_le (L := L) (ls := ls.erase l) (f := f) hn.2 (fun y hy => (List.mem_erase_of_ne (fun (e : y = l) => hn.1 (e ▸ hy))).2 (hs y (by simp [hy]))) (fun x hx => hf x (List.mem_of_mem_erase hx))
    rw [List.map_cons, prodI_cons, prodI_erase hl]
    exact Int.mul_le_mul_of_nonneg_left ih (by have := hf l hl; omega)
/-- Elements gathered. -/
def gath (src : List Int) (wd : Nat) (f : Nat → Nat) : Nat → List Int
  | 0 => []
  | i + 1 => gath src wd f i ++ (src.drop (f i * wd)).take wd
/-- The offset of an index that lists its values by label. -/
theorem off_labels {ls ds L xs : List Int} (hl : ls.length = ds.length) (hn : ls.Nodup) (hL : L.Nodup) (hs : ∀ l ∈ ls, l ∈ L) (hx : xs.length = L.length) :
    dotI (L.map (strideL ls ds)) xs = offs ds (ls.map (atL L xs)) := by
  rw [offs_R (by simp [hl]), offsR_sum (atL L xs) L hL ls ds hl hn hs]
  rw [← dotI_map, atL_map hL hx]
theorem atL_mem {L xs : List Int} {l : Int} (h : l ∈ L) (hx : xs.length = L.length) : ∃ k, k < L.length ∧ k < xs.length ∧ L[k]? = some l ∧ atL L xs l = xs.getD k 0 := by
  obtain ⟨k, hk, e1, e2, _⟩ := place_mem h
  exact ⟨k, hk, by omega, by rw [List.getElem?_eq_getElem hk, e2], by rw [atL, e1]; rfl⟩
end Go.Proofs.Ytjncdanegoileaa

/-
  Plain lists: an index filled in label by label; slices of a box of indices. No condition.
-/
namespace Go.Proofs.Ytjncdanegoileaa
open Plain
set_option linter.unusedSimpArgs false
set_option linter.unusedVariables false

theorem nodup_at {L : List Int} (h : L.Nodup) {i j : Nat} (hi : i < L.length) (hj : j < L.length) (e : L[i] = L[j]) : i = j := by
  rcases Nat.lt_trichotomy i j with h1 | h1 | h1
  · exact absurd e (List.pairwise_iff_getElem.1 h i j hi hj h1)
  · exact h1
  · exact absurd e.symm (List.pairwise_iff_getElem.1 h j i hj hi h1)
theorem fresh_of {L : List Int} (h : L.Nodup) {k : Nat} (hk : k < L.length) : L[k] ∉ L.take k := by
  intro hm
  obtain ⟨i, hi, e⟩ := List.mem_iff_getElem.1 hm
  have hi' : i < k := by simp at hi; omega
  simp at e
  have := nodup_at h (by omega) hk e
  omega
end Go.Proofs.Ytjncdanegoileaa

/-
  Plain lists: the indices of a slice of a box, in their order. No condition.
-/
namespace Go.Proofs.Ytjncdanegoileaa
open Plain
set_option linter.unusedSimpArgs false
set_option linter.unusedVariables false

theorem range_app (a : Nat) : ∀ b, List.range (a + b) = List.range a ++ (List.range b).map (a + ·)
  | 0 => by simp
  | b + 1 => by
    rw [← Nat.add_assoc, List.range_succ, range_app a b, List.range_succ, List.map_append, List.append_assoc]; rfl
theorem range_mul (b : Nat) : ∀ a, List.range (a * b) = (List.range a).flatMap fun x => (List.range b).map (x * b + ·)
  | 0 => by simp
  | a + 1 => by
    rw [Nat.add_mul, Nat.one_mul, range_app, range_mul b a, List.range_succ, List.flatMap_append]
    simp
theorem flatMap_one {A : List Nat} : ∀ {d v : Nat}, v < d → ((List.range d).flatMap fun x => if x = v then A else []) = A
  | 0, _, h => absurd h (Nat.not_lt_zero _)
  | d + 1, v, h => by
    rw [List.range_succ, List.flatMap_append]
    by_cases e : v = d
    · subst e
      have : ((List.range v).flatMap fun x => if x = v then A else []) = [] := by
        rw [List.flatMap_eq_nil_iff]
        intro x hx
        have : x < v := by simpa using hx
        rw [if_neg (by omega)]
      rw [this]
      simp
    · rw [flatMap_one (d := d) (by omega)]
      simp [Ne.symm e]
theorem flatMap_congr' {α β : Type} {f g : α → List β} : ∀ {l : List α}, (∀ x ∈ l, f x = g x) → l.flatMap f = l.flatMap g
  | [], _ => rfl
  | x :: l, h => by rw [List.flatMap_cons, List.flatMap_cons, h x (by simp), flatMap_congr' (fun y hy => h y (by simp [hy]))]
/-- The product as a number. -/
def prodN (ds : List Int) : Nat := (prodI ds).toNat
theorem prodN_eq {ds : List Int} (h : ∀ d ∈ ds, 1 ≤ d) : prodI ds = prodN ds ∧ 1 ≤ prodN ds := by
  have := prodI_pos ds h
  unfold prodN
  omega
theorem prodN_cons {d : Int} {ds : List Int} (h : ∀ x ∈ d :: ds, 1 ≤ x) : prodN (d :: ds) = d.toNat * prodN ds := by
  have h1 := h d (by simp)
  have h2 := prodI_pos ds (fun x hx => h x (by simp [hx]))
  unfold prodN
  rw [prodI_cons]
  have e : d * prodI ds = ((d.toNat * (prodI ds).toNat : Nat) : Int) := by push_cast; rw [Int.toNat_of_nonneg (by omega), Int.toNat_of_nonneg (by omega)]
  rw [e]; rfl
theorem digits_per : ∀ (ds : List Int) (x y : Int), (∀ d ∈ ds, 1 ≤ d) → digits ds (x * prodI ds + y) = digits ds y
  | [], _, _, _ => rfl
  | d :: ds, x, y, h => by
    have hds : ∀ d ∈ ds, 1 ≤ d := fun z hz => h z (by simp [hz])
    have hp := prodI_pos ds hds
    rw [digits_cons, digits_cons, prodI_cons]
    have e : x * (d * prodI ds) + y = (x * d) * prodI ds + y := by rw [Int.mul_assoc]
    rw [e, digits_per ds (x * d) y hds, Int.add_comm, Int.add_mul_ediv_right _ _ (by omega), Int.mul_comm x d, Int.add_mul_emod_self_left]
theorem digits_emod (ds : List Int) (n : Int) (h : ∀ d ∈ ds, 1 ≤ d) : digits ds (n % prodI ds) = digits ds n := by
  have := digits_per ds (n / prodI ds) (n % prodI ds) h
  rw [← this, Int.mul_comm, Int.mul_ediv_add_emod]
theorem offsR_digits : ∀ (ds : List Int) (n : Int), (∀ d ∈ ds, 1 ≤ d) → 0 ≤ n → n < prodI ds → offsR ds (digits ds n) = n
  | [], n, _, h0, h1 => by simp [prodI] at h1; simp [offsR, digits_nil]; omega
  | d :: ds, n, h, h0, h1 => by
    have hds : ∀ d ∈ ds, 1 ≤ d := fun z hz => h z (by simp [hz])
    have hp := prodI_pos ds hds
    rw [prodI_cons] at h1
    rw [digits_cons, offsR, ← digits_emod ds n hds, offsR_digits ds (n % prodI ds) hds (Int.emod_nonneg _ (by omega)) (Int.emod_lt_of_pos _ (by omega))]
    have hq : n / prodI ds < d := Int.ediv_lt_of_lt_mul (by omega) h1
    have hq0 : 0 ≤ n / prodI ds := Int.ediv_nonneg h0 (by omega)
    rw [Int.emod_eq_of_lt hq0 hq, Int.mul_comm, Int.mul_ediv_add_emod]
/-- The strides of all axes. -/
def stridesR : List Int → List Int
  | [] => []
  | _ :: ds => prodI ds :: stridesR ds
theorem stridesR_dot : ∀ (ds is : List Int), is.length = ds.length → dotI (stridesR ds) is = offsR ds is
  | [], [], _ => rfl
  | [], _ :: _, h => by simp at h
  | _ :: _, [], h => by simp at h
  | d :: ds, i :: is, h => by rw [stridesR, dotI, offsR, stridesR_dot ds is (by simpa using h), Int.mul_comm]
theorem strideL_map : ∀ (ls ds : List Int), ls.length = ds.length → ls.Nodup → ls.map (strideL ls ds) = stridesR ds
  | [], [], _, _ => rfl
  | [], _ :: _, h, _ => by simp at h
  | _ :: _, [], h, _ => by simp at h
  | l :: ls, d :: ds, h, hn => by
    simp only [List.nodup_cons] at hn
    rw [List.map_cons, stridesR, strideL, if_pos rfl, ← strideL_map ls ds (by simpa using h) hn.2]
    congr 1
    refine List.map_congr_left fun x hx => ?_
    rw [strideL, if_neg fun (e : x = l) => hn.1 (e ▸ hx)]
/-- The place in a box of the i-th index whose j-th digit is v. -/
def offJ (v : Nat) : List Int → Nat → Nat → Nat
  | [], _, _ => 0
  | _ :: ds, 0, i => v * prodN ds + i
  | _ :: ds, j + 1, i => (i / prodN (ds.eraseIdx j)) * prodN ds + offJ v ds j (i % prodN (ds.eraseIdx j))
theorem erase_pos {ds : List Int} (h : ∀ d ∈ ds, 1 ≤ d) (j : Nat) : ∀ d ∈ ds.eraseIdx j, 1 ≤ d := fun d hd => h d (List.mem_of_mem_eraseIdx hd)
theorem offJ_dot (v : Nat) : ∀ (ds : List Int) (j i : Nat), (∀ d ∈ ds, 1 ≤ d) → j < ds.length → i < prodN (ds.eraseIdx j) →
    (v : Int) * (stridesR ds).getD j 0 + dotI ((stridesR ds).eraseIdx j) (digits (ds.eraseIdx j) i) = offJ v ds j i
  | [], j, _, _, h, _ => by simp at h
  | d :: ds, 0, i, h, _, hi => by
    have hds : ∀ d ∈ ds, 1 ≤ d := fun z hz => h z (by simp [hz])
    obtain ⟨hp, _⟩ := prodN_eq hds
    simp only [stridesR, List.getD_cons_zero, List.eraseIdx_cons_zero, offJ] at hi ⊢
    rw [stridesR_dot _ _ (digits_len _ _), offsR_digits ds i hds (by omega) (by omega), hp]
    push_cast; rfl
  | d :: ds, j + 1, i, h, hj, hi => by
    have hds : ∀ d ∈ ds, 1 ≤ d := fun z hz => h z (by simp [hz])
    have he := erase_pos hds j
    obtain ⟨hp, _⟩ := prodN_eq hds
    obtain ⟨hp', hp1⟩ := prodN_eq he
    have hd := h d (by simp)
    have hall : ∀ x ∈ d :: ds.eraseIdx j, 1 ≤ x := by
      intro x hx
      simp only [List.mem_cons] at hx
      rcases hx with rfl | hx
      · exact hd
      · exact he x hx
    simp only [List.eraseIdx_cons_succ] at hi ⊢
    rw [prodN_cons hall] at hi
    simp only [stridesR, List.getD_cons_succ, List.eraseIdx_cons_succ, digits_cons, dotI, offJ]
    have ih := offJ_dot v ds j (i % prodN (ds.eraseIdx j)) hds (by simpa using hj) (Nat.mod_lt _ (by omega))
    have e1 : digits (ds.eraseIdx j) ((i % prodN (ds.eraseIdx j) : Nat) : Int) = digits (ds.eraseIdx j) i := by
      rw [Int.natCast_emod, ← hp', digits_emod _ _ he]
    rw [e1] at ih
    have hq : i / prodN (ds.eraseIdx j) < d.toNat := Nat.div_lt_of_lt_mul (by rw [Nat.mul_comm]; exact hi)
    have e2 : (i : Int) / prodI (ds.eraseIdx j) % d = (i / prodN (ds.eraseIdx j) : Nat) := by
      rw [hp', ← Int.natCast_ediv]
      generalize i / prodN (ds.eraseIdx j) = q at *
      exact Int.emod_eq_of_lt (by omega) (by omega)
    rw [e2]
    generalize i / prodN (ds.eraseIdx j) = q at *
    generalize i % prodN (ds.eraseIdx j) = q2 at *
    push_cast
    rw [← ih, hp, Int.mul_comm (prodN ds : Int)]
    omega
theorem offJ_filter (v : Nat) : ∀ (ds : List Int) (j : Nat), (∀ d ∈ ds, 1 ≤ d) → j < ds.length → (v : Int) < ds.getD j 0 →
    (List.range (prodN ds)).filter (fun n : Nat => decide ((digits ds n).getD j 0 = v)) = (List.range (prodN (ds.eraseIdx j))).map (offJ v ds j)
  | [], _, _, h, _ => by simp at h
  | d :: ds, 0, h, _, hv => by
    have hds : ∀ d ∈ ds, 1 ≤ d := fun z hz => h z (by simp [hz])
    obtain ⟨hp, hp1⟩ := prodN_eq hds
    have hd := h d (by simp)
    simp only [List.getD_cons_zero] at hv
    rw [prodN_cons h, range_mul, List.filter_flatMap]
    have key : ∀ x ∈ List.range d.toNat, ((List.range (prodN ds)).map (x * prodN ds + ·)).filter (fun n : Nat => decide ((digits (d :: ds) n).getD 0 0 = v)) = if x = v then (List.range (prodN ds)).map (v * prodN ds + ·) else [] := by
      intro x hx
      have hx' : x < d.toNat := by simpa using hx
      have hval : ∀ y, y < prodN ds → (digits (d :: ds) ((x * prodN ds + y : Nat) : Int)).getD 0 0 = x := fun y hy => by
        rw [digits_cons, List.getD_cons_zero, hp, ← Int.natCast_ediv]
        have e : (x * prodN ds + y) / prodN ds = x := by
          rw [Nat.mul_comm, Nat.mul_add_div (by omega), Nat.div_eq_of_lt hy]; omega
        rw [e, Int.emod_eq_of_lt (by omega) (by omega)]
      split
      · rename_i e
        subst e
        refine List.filter_eq_self.2 fun n hn => ?_
        obtain ⟨y, hy, rfl⟩ := List.mem_map.1 hn
        exact decide_eq_true (hval y (by simpa using hy))
      · rename_i e
        refine List.filter_eq_nil_iff.2 fun n hn => ?_
        obtain ⟨y, hy, rfl⟩ := List.mem_map.1 hn
        rw [hval y (by simpa using hy)]
        simp; omega
    rw [flatMap_congr' key, flatMap_one (by omega)]
    simp only [List.eraseIdx_cons_zero]
    rfl
  | d :: ds, j + 1, h, hj, hv => by
    have hds : ∀ d ∈ ds, 1 ≤ d := fun z hz => h z (by simp [hz])
    have he := erase_pos hds j
    obtain ⟨hp, hp1⟩ := prodN_eq hds
    obtain ⟨hp', hp1'⟩ := prodN_eq he
    have hd := h d (by simp)
    have hall : ∀ x ∈ d :: ds.eraseIdx j, 1 ≤ x := by
      intro x hx
      simp only [List.mem_cons] at hx
      rcases hx with rfl | hx
      · exact hd
      · exact he x hx
    simp only [List.getD_cons_succ] at hv
    have ih := offJ_filter v ds j hds (by simpa using hj) hv
    rw [prodN_cons h, range_mul, List.filter_flatMap, List.eraseIdx_cons_succ, prodN_cons hall, range_mul, List.map_flatMap]
    refine flatMap_congr' fun x hx => ?_
    rw [List.filter_map, List.map_map]
    have e1 : (fun n : Nat => decide ((digits (d :: ds) n).getD (j + 1) 0 = (v : Int))) ∘ (x * prodN ds + ·) = fun n : Nat => decide ((digits ds n).getD j 0 = (v : Int)) := by
      funext y
      simp only [Function.comp, digits_cons, List.getD_cons_succ]
      congr 3
      push_cast
      rw [← hp, digits_per ds x y hds]
    rw [e1, ih, List.map_map]
    refine List.map_congr_left fun i hi => ?_
    have hi' : i < prodN (ds.eraseIdx j) := by simpa using hi
    simp only [Function.comp, offJ]
    have e2 : (x * prodN (ds.eraseIdx j) + i) / prodN (ds.eraseIdx j) = x := by
      rw [Nat.mul_comm, Nat.mul_add_div (by omega), Nat.div_eq_of_lt hi']; omega
    have e3 : (x * prodN (ds.eraseIdx j) + i) % prodN (ds.eraseIdx j) = i := by
      rw [Nat.mul_comm, Nat.mul_add_mod, Nat.mod_eq_of_lt hi']
    rw [e2, e3]
end Go.Proofs.Ytjncdanegoileaa
