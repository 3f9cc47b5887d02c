/-
  The walk of the law FnExactIndexAt: it returns true at every input. No condition.
-/
import Derived.Test.YtmgifmgdfldheaaIndex3
import Derived.Test.YtmgifmgdfldheaaLawKit
namespace Go.Proofs.Ytmgifmgdfldheaa
open Go.RowKit Plain
set_option linter.unusedVariables false

set_option maxHeartbeats 4000000 in
set_option maxRecDepth 100000 in
theorem law_IndexAt (w : World) {A00 : Option Addr} {n00 c00 : Nat} {A01 : Option Addr} {n01 c01 : Nat} {A02 : Option Addr} {n02 c02 : Nat} {t0 : Ten} {x1 : Int}
    (hin0 : TnIn w A00 n00 c00 A01 n01 c01 A02 n02 c02 t0) (hin1 : I64 x1) :
    Calls Try.prog 5 #[.agg #[.slice A00 n00 c00, .slice A01 n01 c01, .slice A02 n02 c02], .int .i64 x1] w (RetV w (.bool true)) := by
  have k00 := hin0.l.len; have k01 := hin0.d.len; have k02 := hin0.x.len
  go_enter Try.func5, Try.ntmps5
  go_upto_region 1 with (fail)
  generalize hW0 : (w.alloc (.cells #[.slice A00 n00 c00, .slice A01 n01 c01, .slice A02 n02 c02] 24)) = W1
  have hB : Below w.heap.size w W1 := by rw [← hW0]; exact ((Below.refl _ _).alloc (by simp) _)
  have hz0 : w.heap.size + 1 ≤ W1.heap.size := by rw [← hW0]; simp
  have m00 : W1.cell? ⟨w.heap.size, 0, none⟩ = some (.slice A00 n00 c00) := by rw [← hW0]; simp
  have m01 : W1.cell? ⟨w.heap.size, 1, none⟩ = some (.slice A01 n01 c01) := by rw [← hW0]; simp
  have m02 : W1.cell? ⟨w.heap.size, 2, none⟩ = some (.slice A02 n02 c02) := by rw [← hW0]; simp
  clear hW0
  have x0 := TenAt.step (W' := W1) hB hin0.ten
  go_upto_region 2 with (fail)
  go_wp2_with fail
  refine (szTensor_any _ _ _ _ _ _ _ _ _ (1048576) _ (by omega) (by omega) k00 k01 k02).mono ?_
  rintro e W2 ⟨rfl, st⟩
  have hz1 := Step.size st
  replace m00 := cell_step st m00
  replace m01 := cell_step st m01
  replace m02 := cell_step st m02
  replace hB := Below.step st hB
  replace x0 := TenAt.step st x0
  clear st
  by_cases hbig0 : (n00 : Int) + n01 + n02 ≤ 1048576
  case neg =>
    rw [show szT (1048576) n00 n01 n02 = -1 from if_neg hbig0]
    go_wp2_with fail
    go_ret
    exact ⟨rfl, hB⟩
  rw [show szT (1048576) n00 n01 n02 = 1048576 - n00 - n01 - n02 from if_pos hbig0]
  go_upto_region 5 with (fail)
  have hs0 : TnSz 1048576 t0 := hin0.sz (by omega) (by omega) (by omega)
  have L00 := hs0.l.len; have L01 := hs0.d.len; have L02 := hs0.x.len
  have hR := szIndexAt hs0 hin1
  go_wp2_with fail
  refine (toTensor_any _ _ _ _ _ _ _ _ _ t0 _ (TenAt.top x0) (by omega) (by omega) (by omega)).mono ?_
  rintro e W3 ⟨Av20, cv20, Av21, cv21, Av22, cv22, rfl, ownv2, stv2⟩
  have hz3 := Step.size stv2
  replace m00 := cell_step stv2 m00
  replace m01 := cell_step stv2 m01
  replace m02 := cell_step stv2 m02
  replace hB := Below.step stv2 hB
  replace x0 := TenAt.step stv2 x0
  have okv2 := ownv2.okz hs0 (by omega)
  clear stv2
  go_wp2_with fail
  refine (sIndexAt_c okv2 hin1).mono ?_
  rintro e W4 ⟨Aw, cw, rfl, ownw, stw⟩
  have hz4 := Step.size stw
  replace m00 := cell_step stw m00
  replace m01 := cell_step stw m01
  replace m02 := cell_step stw m02
  replace hB := Below.step stw hB
  replace x0 := TenAt.step stw x0
  replace okv2 := TnOk.step stw okv2
  clear stw
  go_upto_region 6 with (fail)
  go_wp2_with fail
  refine (toTensor_any _ _ _ _ _ _ _ _ _ t0 _ (TenAt.top x0) (by omega) (by omega) (by omega)).mono ?_
  rintro e W5 ⟨Av50, cv50, Av51, cv51, Av52, cv52, rfl, ownv5, stv5⟩
  have hz6 := Step.size stv5
  replace m00 := cell_step stv5 m00
  replace m01 := cell_step stv5 m01
  replace m02 := cell_step stv5 m02
  replace hB := Below.step stv5 hB
  replace x0 := TenAt.step stv5 x0
  replace ownw := OwnI.step stv5 ownw
  clear stv5
  have okv5 := ownv5.okz hs0 (by omega)
  go_upto_region 7 with (fail)
  obtain ⟨W6, hW⟩ : ∃ W', W' = W5.alloc (.cells #[.slice Av50 t0.labels.length cv50, .slice Av51 t0.dims.length cv51, .slice Av52 t0.data.length cv52] 27) := ⟨_, rfl⟩
  rw [← hW]
  have st : Step W5 W6 := by rw [hW]; exact Step.alloc _ _
  have hz7 : W5.heap.size + 1 ≤ W6.heap.size := by rw [hW]; simp
  replace m00 := cell_step st m00
  replace m01 := cell_step st m01
  replace m02 := cell_step st m02
  replace hB := Below.step st hB
  replace x0 := TenAt.step st x0
  replace ownw := OwnI.step st ownw
  replace ownv5 := OwnT.step st ownv5
  replace okv5 := TnOk.step st okv5
  clear st
  have mv50 : W6.cell? ⟨W5.heap.size, 0, none⟩ = some (.slice Av50 t0.labels.length cv50) := by rw [hW]; simp
  have mv51 : W6.cell? ⟨W5.heap.size, 1, none⟩ = some (.slice Av51 t0.dims.length cv51) := by rw [hW]; simp
  have mv52 : W6.cell? ⟨W5.heap.size, 2, none⟩ = some (.slice Av52 t0.data.length cv52) := by rw [hW]; simp
  clear hW
  go_upto_region 7 with (fail)
  go_wp2_with fail
  refine (iIndexAt_c okv5 hin1).mono ?_
  rintro e W7 ⟨Ag, cg, rfl, owng, stg⟩
  have hz8 := Step.size stg
  replace m00 := cell_step stg m00
  replace m01 := cell_step stg m01
  replace m02 := cell_step stg m02
  replace hB := Below.step stg hB
  replace x0 := TenAt.step stg x0
  replace ownw := OwnI.step stg ownw
  replace ownv5 := OwnT.step stg ownv5
  replace okv5 := TnOk.step stg okv5
  replace mv50 := cell_step stg mv50
  replace mv51 := cell_step stg mv51
  replace mv52 := cell_step stg mv52
  clear stg
  go_upto_region 8 with (fail)
  go_wp2_with fail
  refine (eqIntS_same _ _ _ _ _ _ (indexAt t0.labels t0.dims x1) _ owng.ints.top ownw.ints.top (by omega)).mono ?_
  rintro e W8 ⟨rfl, st⟩
  have hz9 := Step.size st
  replace m00 := cell_step st m00
  replace m01 := cell_step st m01
  replace m02 := cell_step st m02
  replace hB := Below.step st hB
  replace x0 := TenAt.step st x0
  replace ownw := OwnI.step st ownw
  replace ownv5 := OwnT.step st ownv5
  replace okv5 := TnOk.step st okv5
  replace mv50 := cell_step st mv50
  replace mv51 := cell_step st mv51
  replace mv52 := cell_step st mv52
  replace owng := OwnI.step st owng
  clear st
  go_upto_region 10 with (fail)
  go_region_held3 (fun W' => W'.cell? ⟨W5.heap.size, 0, none⟩ = some (.slice Av50 t0.labels.length cv50) ∧ W'.cell? ⟨W5.heap.size, 1, none⟩ = some (.slice Av51 t0.dims.length cv51) ∧ W'.cell? ⟨W5.heap.size, 2, none⟩ = some (.slice Av52 t0.data.length cv52) ∧ W'.cell? ⟨w.heap.size, 0, none⟩ = some (.slice A00 n00 c00) ∧ W'.cell? ⟨w.heap.size, 1, none⟩ = some (.slice A01 n01 c01) ∧ W'.cell? ⟨w.heap.size, 2, none⟩ = some (.slice A02 n02 c02))
    (first | exact ⟨mv50, mv51, mv52, m00, m01, m02⟩ | (refine ⟨?_, ?_, ?_, ?_, ?_, ?_⟩ <;> (focus (repeat (first | assumption | refine cell_step (by assumption) ?_ | refine cell_step (Step.alloc _ _) ?_ | refine cell_step (Step.drew _) ?_)))))
    (first
      | (go_at_call 17; refine (toTensor_any _ _ _ _ _ _ _ _ _ t0 _ ?_ (by omega) (by omega) (by omega)).mono ?_; (refine TenAt.top (B := w.heap.size) ?_; (focus (repeat (first | assumption | refine TenAt.step (by assumption) ?_ | refine TenAt.step (Step.alloc _ _) ?_ | refine TenAt.step (Step.drew _) ?_)))); rintro e W9 ⟨Av100, cv100, Av101, cv101, Av102, cv102, rfl, ownv10, stv10⟩
         have stv10' : Step _ _ := stv10
         have ownx := OwnT.step (Step.of_drew stv10) ownv5)
      | (go_at_call 19; refine (eqTensor_same _ _ _ _ _ _ _ _ _ _ _ _ _ _ _ _ _ _ t0 _ ownx.tens.top ownv10.tens.top (by omega) (by omega) (by omega)).mono ?_; rintro e W10 ⟨rfl, ste⟩
         have ste' : Step _ _ := ste))
  have stc := (Step.of_drew stv10').trans ste'
  have hz11 := Step.size stc
  replace m00 := cell_step stc m00
  replace m01 := cell_step stc m01
  replace m02 := cell_step stc m02
  replace hB := Below.step stc hB
  replace x0 := TenAt.step stc x0
  replace ownw := OwnI.step stc ownw
  replace ownv5 := OwnT.step stc ownv5
  replace okv5 := TnOk.step stc okv5
  replace mv50 := cell_step stc mv50
  replace mv51 := cell_step stc mv51
  replace mv52 := cell_step stc mv52
  replace owng := OwnI.step stc owng
  clear stc stv10 stv10' ste ste' ownx ownv10
  go_upto_region 13 with (fail)
  go_wp2_with fail
  refine (markTensor_any _ _ _ _ _ _ _ _ _ (1) (t0) _ _ _ ownv5 (by omega) (by omega) (by omega) (by omega) (by omega)).mono ?_
  rintro e W11 ⟨rfl, own', hO⟩
  have hz12 := hO.size
  replace m00 := cell_only hO (OwnT.blks ownv5) (by omega) m00
  replace m01 := cell_only hO (OwnT.blks ownv5) (by omega) m01
  replace m02 := cell_only hO (OwnT.blks ownv5) (by omega) m02
  replace hB := Below.away hO (OwnT.blks ownv5) (by omega) hB
  replace x0 := TenAt.apart hO (OwnT.blks ownv5) (by omega) (by omega) x0
  replace ownw := OwnI.away hO (OwnT.blks ownv5) (by omega) ownw
  replace owng := OwnI.away hO (OwnT.blks ownv5) (by omega) owng
  clear own' hO ownv5 okv5
  go_upto_region 14 with (fail)
  go_wp2_with fail
  refine (eqIntS_same _ _ _ _ _ _ (indexAt t0.labels t0.dims x1) _ owng.ints.top ownw.ints.top (by omega)).mono ?_
  rintro e W12 ⟨rfl, st⟩
  have hz13 := Step.size st
  replace m00 := cell_step st m00
  replace m01 := cell_step st m01
  replace m02 := cell_step st m02
  replace hB := Below.step st hB
  replace x0 := TenAt.step st x0
  replace ownw := OwnI.step st ownw
  replace owng := OwnI.step st owng
  clear st
  go_upto_region 17 with (fail)
  go_wp2_with fail
  refine (markIntS_any _ _ _ (1) (indexAt t0.labels t0.dims x1) _ _ _ owng (by omega) (by omega) (by omega)).mono ?_
  rintro e W13 ⟨rfl, own', hO⟩
  replace hO := Only.of_grown hO
  have hz14 := hO.size
  replace m00 := cell_only hO (OwnI.blks owng) (by omega) m00
  replace m01 := cell_only hO (OwnI.blks owng) (by omega) m01
  replace m02 := cell_only hO (OwnI.blks owng) (by omega) m02
  replace hB := Below.away hO (OwnI.blks owng) (by omega) hB
  replace x0 := TenAt.apart hO (OwnI.blks owng) (by omega) (by omega) x0
  replace ownw := OwnI.away hO (OwnI.blks owng) (by omega) ownw
  clear owng hO
  have owng := own'
  clear own'
  go_upto_region 19 with (fail)
  go_wp2_with fail
  refine (heldIntS_same _ _ _ 1 _ owng.ints.top (by omega) (by omega) (by omega)).mono ?_
  rintro e W14 ⟨rfl, st⟩
  have hz15 := Step.size st
  replace m00 := cell_step st m00
  replace m01 := cell_step st m01
  replace m02 := cell_step st m02
  replace hB := Below.step st hB
  replace x0 := TenAt.step st x0
  replace ownw := OwnI.step st ownw
  replace owng := OwnI.step st owng
  clear st
  go_upto_region 24 with (fail)
  go_wp2_with fail
  refine (toTensor_any _ _ _ _ _ _ _ _ _ t0 _ (TenAt.top x0) (by omega) (by omega) (by omega)).mono ?_
  rintro e W15 ⟨Av160, cv160, Av161, cv161, Av162, cv162, rfl, ownv16, stv16⟩
  have hz17 := Step.size stv16
  replace m00 := cell_step stv16 m00
  replace m01 := cell_step stv16 m01
  replace m02 := cell_step stv16 m02
  replace hB := Below.step stv16 hB
  replace x0 := TenAt.step stv16 x0
  replace ownw := OwnI.step stv16 ownw
  replace owng := OwnI.step stv16 owng
  have okv16 := ownv16.okz hs0 (by omega)
  clear stv16
  go_wp2_with fail
  refine (iIndexAt_c okv16 hin1).mono ?_
  rintro e W16 ⟨Ah, ch, rfl, ownh, sth⟩
  have hz18 := Step.size sth
  replace m00 := cell_step sth m00
  replace m01 := cell_step sth m01
  replace m02 := cell_step sth m02
  replace hB := Below.step sth hB
  replace x0 := TenAt.step sth x0
  replace ownw := OwnI.step sth ownw
  replace owng := OwnI.step sth owng
  replace okv16 := TnOk.step sth okv16
  clear sth
  go_upto_region 25 with (fail)
  go_wp2_with fail
  refine (eqIntS_same _ _ _ _ _ _ (indexAt t0.labels t0.dims x1) _ ownh.ints.top ownw.ints.top (by omega)).mono ?_
  rintro e W17 ⟨rfl, st⟩
  have hz19 := Step.size st
  replace m00 := cell_step st m00
  replace m01 := cell_step st m01
  replace m02 := cell_step st m02
  replace hB := Below.step st hB
  replace x0 := TenAt.step st x0
  replace ownw := OwnI.step st ownw
  replace owng := OwnI.step st owng
  replace ownh := OwnI.step st ownh
  clear st
  go_upto_region 28 with (fail)
  go_wp2_with fail
  refine (heldIntS_same _ _ _ 1 _ owng.ints.top (by omega) (by omega) (by omega)).mono ?_
  rintro e W18 ⟨rfl, st⟩
  have hz20 := Step.size st
  replace m00 := cell_step st m00
  replace m01 := cell_step st m01
  replace m02 := cell_step st m02
  replace hB := Below.step st hB
  replace x0 := TenAt.step st x0
  replace ownw := OwnI.step st ownw
  replace owng := OwnI.step st owng
  replace ownh := OwnI.step st ownh
  clear st
  go_wp2_with fail
  go_ret
  exact ⟨rfl, hB⟩

end Go.Proofs.Ytmgifmgdfldheaa
