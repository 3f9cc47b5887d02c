/-
  The walk of the law FnExactTensorOk: it returns true at every input. No condition.
-/
import Derived.Test.YtmgifmgdfldheaaTensorOk2
import Derived.Test.YtmgifmgdfldheaaLawKit
namespace Go.Proofs.Ytmgifmgdfldheaa
open Go.RowKit Plain
set_option linter.unusedVariables false

set_option maxHeartbeats 4000000 in
set_option maxRecDepth 100000 in
theorem law_TensorOk (w : World) {kk0 pp0 nn0 : Int} {A10 : Option Addr} {n10 c10 : Nat} {A11 : Option Addr} {n11 c11 : Nat} {A12 : Option Addr} {n12 c12 : Nat} {t1 : Ten}
    (hin0a : I64 kk0) (hin0b : I64 pp0) (hin0c : I64 nn0) (hin1 : TnIn w A10 n10 c10 A11 n11 c11 A12 n12 c12 t1) :
    Calls Try.prog 7 #[.agg #[.int .i64 kk0, .int .i64 pp0, .int .i64 nn0], .agg #[.slice A10 n10 c10, .slice A11 n11 c11, .slice A12 n12 c12]] w (RetV w (.bool true)) := by
  have k10 := hin1.l.len; have k11 := hin1.d.len; have k12 := hin1.x.len
  go_enter Try.func7, Try.ntmps7
  go_upto_region 1 with (fail)
  generalize hW0 : ((w.alloc (.cells #[.int .i64 kk0, .int .i64 pp0, .int .i64 nn0] 43)).alloc (.cells #[.slice A10 n10 c10, .slice A11 n11 c11, .slice A12 n12 c12] 24)) = W1
  have hB : Below w.heap.size w W1 := by rw [← hW0]; exact (((Below.refl _ _).alloc (by simp) _).alloc (by simp) _)
  have hz0 : w.heap.size + 2 ≤ W1.heap.size := by rw [← hW0]; simp
  have m00 : W1.cell? ⟨w.heap.size, 0, none⟩ = some (.int .i64 kk0) := by rw [← hW0]; simp
  have m01 : W1.cell? ⟨w.heap.size, 1, none⟩ = some (.int .i64 pp0) := by rw [← hW0]; simp
  have m02 : W1.cell? ⟨w.heap.size, 2, none⟩ = some (.int .i64 nn0) := by rw [← hW0]; simp
  have m10 : W1.cell? ⟨w.heap.size + 1, 0, none⟩ = some (.slice A10 n10 c10) := by rw [← hW0]; simp
  have m11 : W1.cell? ⟨w.heap.size + 1, 1, none⟩ = some (.slice A11 n11 c11) := by rw [← hW0]; simp
  have m12 : W1.cell? ⟨w.heap.size + 1, 2, none⟩ = some (.slice A12 n12 c12) := by rw [← hW0]; simp
  clear hW0
  have x1 := TenAt.step (W' := W1) hB hin1.ten
  go_upto_region 2 with (fail)
  go_wp2_with fail
  refine (szTensor_any _ _ _ _ _ _ _ _ _ (1048576) _ (by omega) (by omega) k10 k11 k12).mono ?_
  rintro e W2 ⟨rfl, st⟩
  have hz1 := Step.size st
  replace m00 := cell_step st m00
  replace m01 := cell_step st m01
  replace m02 := cell_step st m02
  replace m10 := cell_step st m10
  replace m11 := cell_step st m11
  replace m12 := cell_step st m12
  replace hB := Below.step st hB
  replace x1 := TenAt.step st x1
  clear st
  by_cases hbig1 : (n10 : Int) + n11 + n12 ≤ 1048576
  case neg =>
    rw [show szT (1048576) n10 n11 n12 = -1 from if_neg hbig1]
    go_wp2_with fail
    go_ret
    exact ⟨rfl, hB⟩
  rw [show szT (1048576) n10 n11 n12 = 1048576 - n10 - n11 - n12 from if_pos hbig1]
  go_upto_region 5 with (fail)
  have hs1 : TnSz 1048576 t1 := hin1.sz (by omega) (by omega) (by omega)
  have L10 := hs1.l.len; have L11 := hs1.d.len; have L12 := hs1.x.len
  go_region_held3 (fun W' => W'.cell? ⟨w.heap.size, 0, none⟩ = some (.int .i64 kk0) ∧ W'.cell? ⟨w.heap.size, 1, none⟩ = some (.int .i64 pp0) ∧ W'.cell? ⟨w.heap.size, 2, none⟩ = some (.int .i64 nn0) ∧ W'.cell? ⟨w.heap.size + 1, 0, none⟩ = some (.slice A10 n10 c10) ∧ W'.cell? ⟨w.heap.size + 1, 1, none⟩ = some (.slice A11 n11 c11) ∧ W'.cell? ⟨w.heap.size + 1, 2, none⟩ = some (.slice A12 n12 c12))
    (first | exact ⟨m00, m01, m02, m10, m11, m12⟩ | (refine ⟨?_, ?_, ?_, ?_, ?_, ?_⟩ <;> (focus (repeat (first | assumption | refine cell_step (by assumption) ?_ | refine cell_step (Step.alloc _ _) ?_ | refine cell_step (Step.drew _) ?_)))))
    (first
      | (go_at_call 32; refine (toRing_any _ _ _ _).mono ?_; rintro e W3 ⟨rfl, stv2⟩
         have stv2' : Step _ _ := stv2
         have hsv2 := Step.size stv2
         try simp at hsv2)
      | (go_at_call 17; refine (toTensor_any _ _ _ _ _ _ _ _ _ t1 _ ?_ (by omega) (by omega) (by omega)).mono ?_; (refine TenAt.top (B := w.heap.size) ?_; (focus (repeat (first | assumption | refine TenAt.step (by assumption) ?_ | refine TenAt.step (Step.alloc _ _) ?_ | refine TenAt.step (Step.drew _) ?_)))); rintro e W4 ⟨Av30, cv30, Av31, cv31, Av32, cv32, rfl, ownv3, stv3⟩
         have stv3' : Step _ _ := stv3
         have okv3 := ownv3.okz hs1 (by omega)
         have hsv3 := Step.size stv3
         try simp at hsv3)
      | (go_at_call 31; refine (sTensorOk_c hin0a hin0b hin0c (?_ : TnOk _ _ _ _ _ _ _ _ _ _ t1)).mono ?_; (focus (repeat (first | assumption | refine TnOk.step (by assumption) ?_ | refine TnOk.step (Step.alloc _ _) ?_ | refine TnOk.step (Step.drew _) ?_))); rintro e W5 ⟨rfl, stw⟩
         have stw' : Step _ _ := stw
         have hsw := Step.size stw
         try simp at hsw))
  have stc4 := (((Step.of_drew stv2').trans stv3').trans stw')
  have hz5 := Step.size stc4
  replace m00 := cell_step stc4 m00
  replace m01 := cell_step stc4 m01
  replace m02 := cell_step stc4 m02
  replace m10 := cell_step stc4 m10
  replace m11 := cell_step stc4 m11
  replace m12 := cell_step stc4 m12
  replace hB := Below.step stc4 hB
  replace x1 := TenAt.step stc4 x1
  clear stc4 stv2 stv2' stv3 stv3' stw stw'
  go_upto_region 6 with (fail)
  go_wp2_with fail
  refine (toTensor_any _ _ _ _ _ _ _ _ _ t1 _ (TenAt.top x1) (by omega) (by omega) (by omega)).mono ?_
  rintro e W6 ⟨Av60, cv60, Av61, cv61, Av62, cv62, rfl, ownv6, stv6⟩
  have hz7 := Step.size stv6
  replace m00 := cell_step stv6 m00
  replace m01 := cell_step stv6 m01
  replace m02 := cell_step stv6 m02
  replace m10 := cell_step stv6 m10
  replace m11 := cell_step stv6 m11
  replace m12 := cell_step stv6 m12
  replace hB := Below.step stv6 hB
  replace x1 := TenAt.step stv6 x1
  clear stv6
  have okv6 := ownv6.okz hs1 (by omega)
  go_upto_region 7 with (fail)
  obtain ⟨W7, hW⟩ : ∃ W', W' = W6.alloc (.cells #[.slice Av60 t1.labels.length cv60, .slice Av61 t1.dims.length cv61, .slice Av62 t1.data.length cv62] 27) := ⟨_, rfl⟩
  rw [← hW]
  have st : Step W6 W7 := by rw [hW]; exact Step.alloc _ _
  have hz8 : W6.heap.size + 1 ≤ W7.heap.size := by rw [hW]; simp
  replace m00 := cell_step st m00
  replace m01 := cell_step st m01
  replace m02 := cell_step st m02
  replace m10 := cell_step st m10
  replace m11 := cell_step st m11
  replace m12 := cell_step st m12
  replace hB := Below.step st hB
  replace x1 := TenAt.step st x1
  replace ownv6 := OwnT.step st ownv6
  replace okv6 := TnOk.step st okv6
  clear st
  have mv60 : W7.cell? ⟨W6.heap.size, 0, none⟩ = some (.slice Av60 t1.labels.length cv60) := by rw [hW]; simp
  have mv61 : W7.cell? ⟨W6.heap.size, 1, none⟩ = some (.slice Av61 t1.dims.length cv61) := by rw [hW]; simp
  have mv62 : W7.cell? ⟨W6.heap.size, 2, none⟩ = some (.slice Av62 t1.data.length cv62) := by rw [hW]; simp
  clear hW
  go_upto_region 7 with (fail)
  go_region_held3 (fun W' => W'.cell? ⟨w.heap.size, 0, none⟩ = some (.int .i64 kk0) ∧ W'.cell? ⟨w.heap.size, 1, none⟩ = some (.int .i64 pp0) ∧ W'.cell? ⟨w.heap.size, 2, none⟩ = some (.int .i64 nn0) ∧ W'.cell? ⟨W6.heap.size, 0, none⟩ = some (.slice Av60 t1.labels.length cv60) ∧ W'.cell? ⟨W6.heap.size, 1, none⟩ = some (.slice Av61 t1.dims.length cv61) ∧ W'.cell? ⟨W6.heap.size, 2, none⟩ = some (.slice Av62 t1.data.length cv62))
    (first | exact ⟨m00, m01, m02, mv60, mv61, mv62⟩ | (refine ⟨?_, ?_, ?_, ?_, ?_, ?_⟩ <;> (focus (repeat (first | assumption | refine cell_step (by assumption) ?_ | refine cell_step (Step.alloc _ _) ?_ | refine cell_step (Step.drew _) ?_)))))
    (first
      | (go_at_call 32; refine (toRing_any _ _ _ _).mono ?_; rintro e W8 ⟨rfl, stv9⟩
         have stv9' : Step _ _ := stv9
         have hsv9 := Step.size stv9
         try simp at hsv9)
      | (go_at_call 33; refine (iTensorOk_c hin0a hin0b hin0c (?_ : TnOk _ _ _ _ _ _ _ _ _ _ t1)).mono ?_; (focus (repeat (first | assumption | refine TnOk.step (by assumption) ?_ | refine TnOk.step (Step.alloc _ _) ?_ | refine TnOk.step (Step.drew _) ?_))); rintro e W9 ⟨rfl, stg⟩
         have stg' : Step _ _ := stg
         have hsg := Step.size stg
         try simp at hsg))
  have stc10 := ((Step.of_drew stv9').trans stg')
  have hz11 := Step.size stc10
  replace m00 := cell_step stc10 m00
  replace m01 := cell_step stc10 m01
  replace m02 := cell_step stc10 m02
  replace m10 := cell_step stc10 m10
  replace m11 := cell_step stc10 m11
  replace m12 := cell_step stc10 m12
  replace hB := Below.step stc10 hB
  replace x1 := TenAt.step stc10 x1
  replace ownv6 := OwnT.step stc10 ownv6
  replace okv6 := TnOk.step stc10 okv6
  replace mv60 := cell_step stc10 mv60
  replace mv61 := cell_step stc10 mv61
  replace mv62 := cell_step stc10 mv62
  clear stc10 stv9 stv9' stg stg'
  go_upto_region 10 with (fail)
  go_region_held3 (fun W' => W'.cell? ⟨W6.heap.size, 0, none⟩ = some (.slice Av60 t1.labels.length cv60) ∧ W'.cell? ⟨W6.heap.size, 1, none⟩ = some (.slice Av61 t1.dims.length cv61) ∧ W'.cell? ⟨W6.heap.size, 2, none⟩ = some (.slice Av62 t1.data.length cv62) ∧ W'.cell? ⟨w.heap.size + 1, 0, none⟩ = some (.slice A10 n10 c10) ∧ W'.cell? ⟨w.heap.size + 1, 1, none⟩ = some (.slice A11 n11 c11) ∧ W'.cell? ⟨w.heap.size + 1, 2, none⟩ = some (.slice A12 n12 c12))
    (first | exact ⟨mv60, mv61, mv62, m10, m11, m12⟩ | (refine ⟨?_, ?_, ?_, ?_, ?_, ?_⟩ <;> (focus (repeat (first | assumption | refine cell_step (by assumption) ?_ | refine cell_step (Step.alloc _ _) ?_ | refine cell_step (Step.drew _) ?_)))))
    (first
      | (go_at_call 17; refine (toTensor_any _ _ _ _ _ _ _ _ _ t1 _ ?_ (by omega) (by omega) (by omega)).mono ?_; (refine TenAt.top (B := w.heap.size) ?_; (focus (repeat (first | assumption | refine TenAt.step (by assumption) ?_ | refine TenAt.step (Step.alloc _ _) ?_ | refine TenAt.step (Step.drew _) ?_)))); rintro e W10 ⟨Av120, cv120, Av121, cv121, Av122, cv122, rfl, ownv12, stv12⟩
         have stv12' : Step _ _ := stv12
         have ownx := OwnT.step (Step.of_drew stv12) ownv6)
      | (go_at_call 19; refine (eqTensor_same _ _ _ _ _ _ _ _ _ _ _ _ _ _ _ _ _ _ t1 _ ownx.tens.top ownv12.tens.top (by omega) (by omega) (by omega)).mono ?_; rintro e W11 ⟨rfl, ste⟩
         have ste' : Step _ _ := ste))
  have stc := (Step.of_drew stv12').trans ste'
  have hz13 := Step.size stc
  replace m00 := cell_step stc m00
  replace m01 := cell_step stc m01
  replace m02 := cell_step stc m02
  replace m10 := cell_step stc m10
  replace m11 := cell_step stc m11
  replace m12 := cell_step stc m12
  replace hB := Below.step stc hB
  replace x1 := TenAt.step stc x1
  replace ownv6 := OwnT.step stc ownv6
  replace okv6 := TnOk.step stc okv6
  replace mv60 := cell_step stc mv60
  replace mv61 := cell_step stc mv61
  replace mv62 := cell_step stc mv62
  clear stc stv12 stv12' ste ste' ownx ownv12
  go_wp2_with fail
  go_ret
  exact ⟨rfl, hB⟩

end Go.Proofs.Ytmgifmgdfldheaa
