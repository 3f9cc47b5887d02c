/-
 Plain: all labels of a state have dimensions. No condition.
-/
import Derived.Test.YtjfmckhbmdjnpaaGreatOrdB
import Derived.Test.YtjfmckhbmdjnpaaGreatOrdC
set_option linter.unusedSimpArgs false
set_option linter.unusedVariables false
namespace Go.Proofs.YtjfmckhbmdjnpaaGreat
open Go.RowKit Go.Lift Plain
set_option maxRecDepth 100000
def OsT (T:List Int) (s:Osd):Prop:=∀ i,∀ x∈s.lab i,1≤atT T x∧atT T x≤8
section
variable {T os : List Int} {s : Osd} {m a b : Nat}
theorem OsT.res (h:OsT T s):∀ x∈s.res os a b,1≤atT T x∧atT T x≤8:=fun x hx=>
 (ba.1 (List.mem_filter.1 hx).1).elim (h a x) (h b x)
theorem OsT.join (h:OsT T s):∀ x∈au (s.lab a) (s.lab b),1≤atT T x∧atT T x≤8:=fun x hx=>(ba.1 hx).elim (h a x) (h b x)
theorem OsT.step (hs:OsOk s m) (h:OsT T s):OsT T (s.step os a b):=fun i x hx=>by
 rcases Nat.lt_trichotomy i m with hi | rfl | hi
 ·rw[EB hs hi]at hx;exact h i x hx
 ·rw[xn hs]at hx;exact h.res x hx
 ·have:(s.step os a b).lab i=[]:=by
   have:=(hs.step os a b).n
   unfold Osd.lab
   rw[zq,List.getElem?_eq_none (by omega)];rfl
  rw[this]at hx;cases hx
end
set_option maxRecDepth 100000
set_option maxRecDepth 100000
section
variable {N : Net} {n : Nat} {F : List Int}
def stA (F:List Int) (k:Nat):Nat:=(F.getD (k*2) 0).toNat
def stB (F:List Int) (k:Nat):Nat:=(F.getD (k*2+1) 0).toNat
structure OrdOk (N:Net) (F:List Int) (k:Nat):Prop where
 ok:OsOk (ordS N F k) (N.ts.length+k)
 t:OsT (dh N.ts).1 (ordS N F k)
structure OrdStep (N:Net) (F:List Int) (k:Nat):Prop where
 a:F.getD (k*2) 0=stA F k
 b:F.getD (k*2+1) 0=stB F k
 ma:stA F k∈(ordS N F k).nums
 mb:stB F k∈(ordS N F k).nums
 lt:stA F k<stB F k
 nx:ordS N F (k+1)=(ordS N F k).step N.os (stA F k) (stB F k)
 fol:Bs (ordS N F k) (F.getD (k*2) 0) (F.getD (k*2+1) 0)=true
theorem OrdStep.at {k:Nat} (h:OrdStep N F k) (ho:OrdOk N F k):stA F k<N.ts.length+k∧stB F k<N.ts.length+k:=by
 have hn:=ho.ok.n
 have h1:=(yI.1 h.ma).1
 have h2:=(yI.1 h.mb).1
 omega
end
set_option maxRecDepth 100000
section
variable {N : Net} {n : Nat} {F : List Int}
end
end Go.Proofs.YtjfmckhbmdjnpaaGreat
