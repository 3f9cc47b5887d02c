/-
  The walk of the law FnExactOffsetOf: it returns true at every input. No condition.
-/
import Derived.Test.YtmgifmgdfldheaaIndex2
import Derived.Test.YtmgifmgdfldheaaLawKit
namespace Go.Proofs.Ytmgifmgdfldheaa
open Go.RowKit Plain
set_option linter.unusedVariables false

set_option maxHeartbeats 4000000 in
set_option maxRecDepth 100000 in
theorem law_OffsetOf (w : World) {A00 : Option Addr} {n00 c00 : Nat} {A01 : Option Addr} {n01 c01 : Nat} {A02 : Option Addr} {n02 c02 : Nat} {t0 : Ten} {A1 : Option Addr} {n1 c1 : Nat} {xs1 : List Int}
    (hin0 : TnIn w A00 n00 c00 A01 n01 c01 A02 n02 c02 t0) (hin1 : SlIn w A1 n1 c1 xs1) :
    Calls Try.prog 4 #[.agg #[.slice A00 n00 c00, .slice A01 n01 c01, .slice A02 n02 c02], .slice A1 n1 c1] w (RetV w (.bool true)) := by
  have k00 := hin0.l.len; have k01 := hin0.d.len; have k02 := hin0.x.len
  have k1 := hin1.len
  go_enter Try.func4, Try.ntmps4
  go_upto_region 1 with (fail)
  generalize hW0 : (w.alloc (.cells #[.slice A00 n00 c00, .slice A01 n01 c01, .slice A02 n02 c02] 24)) = W1
  have hB : Below w.heap.size w W1 := by rw [← hW0]; exact ((Below.refl _ _).alloc (by simp) _)
  have hz0 : w.heap.size + 1 ≤ W1.heap.size := by rw [← hW0]; simp
  have m00 : W1.cell? ⟨w.heap.size, 0, none⟩ = some (.slice A00 n00 c00) := by rw [← hW0]; simp
  have m01 : W1.cell? ⟨w.heap.size, 1, none⟩ = some (.slice A01 n01 c01) := by rw [← hW0]; simp
  have m02 : W1.cell? ⟨w.heap.size, 2, none⟩ = some (.slice A02 n02 c02) := by rw [← hW0]; simp
  clear hW0
  have x0 := TenAt.step (W' := W1) hB hin0.ten
  have x1 := IntsAt.step (W' := W1) hB hin1.at_
  go_upto_region 1 with (fail)
  by_cases hbig1 : n1 ≤ 1048576
  case neg =>
    go_wp2_with fail
    go_ret
    exact ⟨rfl, hB⟩
  go_upto_region 4 with (fail)
  go_wp2_with fail
  refine (szTensor_any _ _ _ _ _ _ _ _ _ (1048576) _ (by omega) (by omega) k00 k01 k02).mono ?_
  rintro e W2 ⟨rfl, st⟩
  have hz1 := Step.size st
  replace m00 := cell_step st m00
  replace m01 := cell_step st m01
  replace m02 := cell_step st m02
  replace hB := Below.step st hB
  replace x0 := TenAt.step st x0
  replace x1 := IntsAt.step st x1
  clear st
  by_cases hbig0 : (n00 : Int) + n01 + n02 ≤ 1048576
  case neg =>
    rw [show szT (1048576) n00 n01 n02 = -1 from if_neg hbig0]
    go_wp2_with fail
    go_ret
    exact ⟨rfl, hB⟩
  rw [show szT (1048576) n00 n01 n02 = 1048576 - n00 - n01 - n02 from if_pos hbig0]
  go_upto_region 7 with (fail)
  have hs0 : TnSz 1048576 t0 := hin0.sz (by omega) (by omega) (by omega)
  have L00 := hs0.l.len; have L01 := hs0.d.len; have L02 := hs0.x.len
  have hs1 : SlSz 1048576 xs1 := hin1.sz (by omega)
  have L1 := hs1.len
  go_wp2_with fail
  refine (toTensor_any _ _ _ _ _ _ _ _ _ t0 _ (TenAt.top x0) (by omega) (by omega) (by omega)).mono ?_
  rintro e W3 ⟨Av20, cv20, Av21, cv21, Av22, cv22, rfl, ownv2, stv2⟩
  have hz4 := Step.size stv2
  replace m00 := cell_step stv2 m00
  replace m01 := cell_step stv2 m01
  replace m02 := cell_step stv2 m02
  replace hB := Below.step stv2 hB
  replace x0 := TenAt.step stv2 x0
  replace x1 := IntsAt.step stv2 x1
  have okv2 := ownv2.okz hs0 (by omega)
  clear stv2
  go_wp2_with fail
  refine (toIntS_any _ _ _ xs1 _ (IntsAt.top x1) (by omega)).mono ?_
  rintro e W4 ⟨Av3, cv3, rfl, ownv3, stv3⟩
  have hz5 := Step.size stv3
  replace m00 := cell_step stv3 m00
  replace m01 := cell_step stv3 m01
  replace m02 := cell_step stv3 m02
  replace hB := Below.step stv3 hB
  replace x0 := TenAt.step stv3 x0
  replace x1 := IntsAt.step stv3 x1
  replace okv2 := TnOk.step stv3 okv2
  have okv3 := ownv3.okz hs1 (by omega)
  clear stv3
  go_wp2_with fail
  refine (sOffsetOf_c okv2 okv3).mono ?_
  rintro e W5 ⟨rfl, stw⟩
  have hz6 := Step.size stw
  replace m00 := cell_step stw m00
  replace m01 := cell_step stw m01
  replace m02 := cell_step stw m02
  replace hB := Below.step stw hB
  replace x0 := TenAt.step stw x0
  replace x1 := IntsAt.step stw x1
  replace okv2 := TnOk.step stw okv2
  replace okv3 := SlOk.step stw okv3
  clear stw
  go_upto_region 8 with (fail)
  go_wp2_with fail
  refine (toTensor_any _ _ _ _ _ _ _ _ _ t0 _ (TenAt.top x0) (by omega) (by omega) (by omega)).mono ?_
  rintro e W6 ⟨Av70, cv70, Av71, cv71, Av72, cv72, rfl, ownv7, stv7⟩
  have hz8 := Step.size stv7
  replace m00 := cell_step stv7 m00
  replace m01 := cell_step stv7 m01
  replace m02 := cell_step stv7 m02
  replace hB := Below.step stv7 hB
  replace x0 := TenAt.step stv7 x0
  replace x1 := IntsAt.step stv7 x1
  clear stv7
  have okv7 := ownv7.okz hs0 (by omega)
  go_upto_region 9 with (fail)
  obtain ⟨W7, hW⟩ : ∃ W', W' = W6.alloc (.cells #[.slice Av70 t0.labels.length cv70, .slice Av71 t0.dims.length cv71, .slice Av72 t0.data.length cv72] 27) := ⟨_, rfl⟩
  rw [← hW]
  have st : Step W6 W7 := by rw [hW]; exact Step.alloc _ _
  have hz9 : W6.heap.size + 1 ≤ W7.heap.size := by rw [hW]; simp
  replace m00 := cell_step st m00
  replace m01 := cell_step st m01
  replace m02 := cell_step st m02
  replace hB := Below.step st hB
  replace x0 := TenAt.step st x0
  replace x1 := IntsAt.step st x1
  replace ownv7 := OwnT.step st ownv7
  replace okv7 := TnOk.step st okv7
  clear st
  have mv70 : W7.cell? ⟨W6.heap.size, 0, none⟩ = some (.slice Av70 t0.labels.length cv70) := by rw [hW]; simp
  have mv71 : W7.cell? ⟨W6.heap.size, 1, none⟩ = some (.slice Av71 t0.dims.length cv71) := by rw [hW]; simp
  have mv72 : W7.cell? ⟨W6.heap.size, 2, none⟩ = some (.slice Av72 t0.data.length cv72) := by rw [hW]; simp
  clear hW
  go_upto_region 9 with (fail)
  go_wp2_with fail
  refine (toIntS_any _ _ _ xs1 _ (IntsAt.top x1) (by omega)).mono ?_
  rintro e W8 ⟨Av10, cv10, rfl, ownv10, stv10⟩
  have hz11 := Step.size stv10
  replace m00 := cell_step stv10 m00
  replace m01 := cell_step stv10 m01
  replace m02 := cell_step stv10 m02
  replace hB := Below.step stv10 hB
  replace x0 := TenAt.step stv10 x0
  replace x1 := IntsAt.step stv10 x1
  replace ownv7 := OwnT.step stv10 ownv7
  replace okv7 := TnOk.step stv10 okv7
  replace mv70 := cell_step stv10 mv70
  replace mv71 := cell_step stv10 mv71
  replace mv72 := cell_step stv10 mv72
  clear stv10
  have okv10 := ownv10.okz hs1 (by omega)
  go_upto_region 10 with (fail)
  go_wp2_with fail
  refine (iOffsetOf_c okv7 okv10).mono ?_
  rintro e W9 ⟨rfl, stg⟩
  have hz12 := Step.size stg
  replace m00 := cell_step stg m00
  replace m01 := cell_step stg m01
  replace m02 := cell_step stg m02
  replace hB := Below.step stg hB
  replace x0 := TenAt.step stg x0
  replace x1 := IntsAt.step stg x1
  replace ownv7 := OwnT.step stg ownv7
  replace okv7 := TnOk.step stg okv7
  replace mv70 := cell_step stg mv70
  replace mv71 := cell_step stg mv71
  replace mv72 := cell_step stg mv72
  replace ownv10 := OwnI.step stg ownv10
  replace okv10 := SlOk.step stg okv10
  clear stg
  go_upto_region 13 with (fail)
  go_region_held3 (fun W' => W'.cell? ⟨W6.heap.size, 0, none⟩ = some (.slice Av70 t0.labels.length cv70) ∧ W'.cell? ⟨W6.heap.size, 1, none⟩ = some (.slice Av71 t0.dims.length cv71) ∧ W'.cell? ⟨W6.heap.size, 2, none⟩ = some (.slice Av72 t0.data.length cv72) ∧ W'.cell? ⟨w.heap.size, 0, none⟩ = some (.slice A00 n00 c00) ∧ W'.cell? ⟨w.heap.size, 1, none⟩ = some (.slice A01 n01 c01) ∧ W'.cell? ⟨w.heap.size, 2, none⟩ = some (.slice A02 n02 c02))
    (first | exact ⟨mv70, mv71, mv72, m00, m01, m02⟩ | (refine ⟨?_, ?_, ?_, ?_, ?_, ?_⟩ <;> (focus (repeat (first | assumption | refine cell_step (by assumption) ?_ | refine cell_step (Step.alloc _ _) ?_ | refine cell_step (Step.drew _) ?_)))))
    (first
      | (go_at_call 17; refine (toTensor_any _ _ _ _ _ _ _ _ _ t0 _ ?_ (by omega) (by omega) (by omega)).mono ?_; (refine TenAt.top (B := w.heap.size) ?_; (focus (repeat (first | assumption | refine TenAt.step (by assumption) ?_ | refine TenAt.step (Step.alloc _ _) ?_ | refine TenAt.step (Step.drew _) ?_)))); rintro e W10 ⟨Av130, cv130, Av131, cv131, Av132, cv132, rfl, ownv13, stv13⟩
         have stv13' : Step _ _ := stv13
         have ownx := OwnT.step (Step.of_drew stv13) ownv7)
      | (go_at_call 19; refine (eqTensor_same _ _ _ _ _ _ _ _ _ _ _ _ _ _ _ _ _ _ t0 _ ownx.tens.top ownv13.tens.top (by omega) (by omega) (by omega)).mono ?_; rintro e W11 ⟨rfl, ste⟩
         have ste' : Step _ _ := ste))
  have stc := (Step.of_drew stv13').trans ste'
  have hz14 := Step.size stc
  replace m00 := cell_step stc m00
  replace m01 := cell_step stc m01
  replace m02 := cell_step stc m02
  replace hB := Below.step stc hB
  replace x0 := TenAt.step stc x0
  replace x1 := IntsAt.step stc x1
  replace ownv7 := OwnT.step stc ownv7
  replace okv7 := TnOk.step stc okv7
  replace mv70 := cell_step stc mv70
  replace mv71 := cell_step stc mv71
  replace mv72 := cell_step stc mv72
  replace ownv10 := OwnI.step stc ownv10
  replace okv10 := SlOk.step stc okv10
  clear stc stv13 stv13' ste ste' ownx ownv13
  go_upto_region 15 with (fail)
  go_wp2_with fail
  refine (toIntS_any _ _ _ xs1 _ (IntsAt.top x1) (by omega)).mono ?_
  rintro e W12 ⟨Av15, cv15, rfl, ownv15, stv15⟩
  replace m00 := cell_step stv15 m00
  replace m01 := cell_step stv15 m01
  replace m02 := cell_step stv15 m02
  replace hB := Below.step stv15 hB
  replace x0 := TenAt.step stv15 x0
  replace x1 := IntsAt.step stv15 x1
  replace ownv7 := OwnT.step stv15 ownv7
  replace okv7 := TnOk.step stv15 okv7
  replace mv70 := cell_step stv15 mv70
  replace mv71 := cell_step stv15 mv71
  replace mv72 := cell_step stv15 mv72
  replace ownv10 := OwnI.step stv15 ownv10
  replace okv10 := SlOk.step stv15 okv10
  have hz16 := Step.size stv15
  clear stv15
  go_wp2_with fail
  refine (eqIntS_same _ _ _ _ _ _ xs1 _ ownv10.ints.top ownv15.ints.top (by omega)).mono ?_
  rintro e W13 ⟨rfl, st⟩
  have hz17 := Step.size st
  replace m00 := cell_step st m00
  replace m01 := cell_step st m01
  replace m02 := cell_step st m02
  replace hB := Below.step st hB
  replace x0 := TenAt.step st x0
  replace x1 := IntsAt.step st x1
  replace ownv7 := OwnT.step st ownv7
  replace okv7 := TnOk.step st okv7
  replace mv70 := cell_step st mv70
  replace mv71 := cell_step st mv71
  replace mv72 := cell_step st mv72
  replace ownv10 := OwnI.step st ownv10
  replace okv10 := SlOk.step st okv10
  clear st ownv15
  go_wp2_with fail
  go_ret
  exact ⟨rfl, hB⟩

end Go.Proofs.Ytmgifmgdfldheaa
