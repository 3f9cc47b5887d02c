/-
  The contracts of TensorSize in the form in which the laws use them. No condition.
-/
import Derived.Test.YtmgifmgdfldheaaSize2
import Derived.Test.YtmgifmgdfldheaaSize3
import Derived.Test.YtmgifmgdfldheaaLawKit
namespace Go.Proofs.Ytmgifmgdfldheaa
open Go.RowKit Plain

theorem iTensorSize_c {W : World} {A0 : Option Addr} {n0 c0 : Nat} {A1 : Option Addr} {n1 c1 : Nat} {A2 : Option Addr} {n2 c2 : Nat} {t : Ten} (h : TnOk W A0 n0 c0 A1 n1 c1 A2 n2 c2 t) :
    Calls Try.prog 18 #[.agg #[.slice A0 n0 c0, .slice A1 n1 c1, .slice A2 n2 c2]] W (RetV W (.int .i64 (tsize t.labels t.dims))) :=
  iTensorSize _ _ _ _ _ _ _ _ _ _ _ _ h.l.at_ h.d.at_ h.l.len h.d.len h.l.cap
theorem sTensorSize_c {W : World} {A0 : Option Addr} {n0 c0 : Nat} {A1 : Option Addr} {n1 c1 : Nat} {A2 : Option Addr} {n2 c2 : Nat} {t : Ten} (h : TnOk W A0 n0 c0 A1 n1 c1 A2 n2 c2 t) :
    Calls Try.prog 16 #[.agg #[.slice A0 n0 c0, .slice A1 n1 c1, .slice A2 n2 c2]] W (RetV W (.int .i64 (tsize t.labels t.dims))) :=
  sTensorSize _ _ _ _ _ _ _ _ _ _ _ _ h.l.at_ h.d.at_ h.l.len h.d.len h.l.cap
end Go.Proofs.Ytmgifmgdfldheaa
