/-
 Contracts: tensors replaced, environments, by the program; tensors made like another, by the reference. No condition.
-/
import Derived.Test.YtjfmckhbmdjnpaaGreatMgCompiledA
import Derived.Test.YtjfmckhbmdjnpaaGreatCtrB
import Derived.Test.YtjfmckhbmdjnpaaGreatOrdT
import Derived.Test.YtjfmckhbmdjnpaaGreatNvA
set_option linter.unusedSimpArgs false
set_option linter.unusedVariables false
namespace Go.Proofs.YtjfmckhbmdjnpaaGreat
open Go.RowKit Go.Lift Plain
set_option maxRecDepth 100000
section
variable {ts : List Ten} {i k : Nat} {t : Ten}
end
set_option maxRecDepth 100000
theorem tG {xs:List Int} (h:xs.length≤1048576):Does Tryz.prog 45 [.d (ints xs),.d (ints xs)] [] (.d (.bool true)) []:=by
 have c0:((xs.length:Int)==xs.length)=true:=by simp
 (refine spec_of (by kernel_rfl) Tryz.func45 AX (fnOk (nb rfl) ?_);unfold uy)
 (simp only[Nat.reduceSub,Zl,zn,Nat.reduceAdd,zF];try simp only[af]);(simp only[go_sem,seval,reduceCtorEq,List.replicate])
 refine aP (xs.length) (mkB 32 134216816) (fun k=>[(9,.d (.int k))]) (fun k=>[]) (h1:=by first | (simp only[go_sem,seval,reduceCtorEq,nz,na,n1];first | done | rfl) | rfl) (h2:=by first | (simp only[go_sem,seval,reduceCtorEq,nz,na,n1];first | done | rfl) | rfl) (hr:=fun k hk=> ?_)
 unfold sK
 by_cases hlt:k<xs.length
 ·have d1:(k:Int)<xs.length:=by omega
  have d2:¬ (k:Int)≥xs.length:=by omega
  have g:xs[k]? =some xs[k]:=zg hlt
  have c:(xs[k] !=xs[k])=false:=by simp
  simp(disch:=omega) only[go_sem,seval,reduceCtorEq,d1,d2,g,c]
  (refine Next.drop (mkB 32 134216816) (by omega) (h1:= ?_) (h2:= ?_)<;>first | (simp only[go_sem,seval,reduceCtorEq,nz,na,n1];first | done | rfl) | rfl | skip)
 ·have d1:¬ (k:Int)<xs.length:=by omega
  simp(disch:=omega) only[go_sem,seval,reduceCtorEq,d1,c0]
  (refine zE ?_ ?_<;>try simp only[go_sem,seval,reduceCtorEq])
theorem DH {t:Ten} (h:TSz 1048576 t):Does Tryz.prog 12 [tenA t,tenA t] [] (.d (.bool true)) []:=by
 (refine spec_of (by kernel_rfl) Tryz.func12 AW (fnOk (nb rfl) ?_);unfold ux)
 (simp only[Nat.reduceSub,Zl,zn,Nat.reduceAdd,zF];try simp only[af]);(simp only[go_sem,seval,reduceCtorEq,List.replicate])
 (refine zC (tG (xs:=t.labels) h.l.len) ?_)
 simp only[go_sem,seval,reduceCtorEq]
 (refine zC (tG (xs:=t.dims) h.d.len) ?_)
 simp only[go_sem,seval,reduceCtorEq]
 (refine zC (tG (xs:=t.data) h.x.len) ?_)
 simp only[go_sem,seval,reduceCtorEq]
 (refine zE ?_ ?_<;>try simp only[go_sem,seval,reduceCtorEq])
theorem Hx {N:Net} (hN:Gen6 N) {wd:Nat} (hw:ai N.rg=wd):Does Tryz.prog 13 [netA N] [] (tenA (Sem.nvR N wd)) []:=by
 have h:=NetworkValue_d hN hw
 generalize Sem.nvR N wd=V at*
 (refine spec_of (by kernel_rfl) Tryz.func13 zh (fnOk (nb rfl) ?_);unfold sN)
 (simp only[Nat.reduceSub,Zl,zn,Nat.reduceAdd,zF];try simp only[af]);(simp only[go_sem,seval,reduceCtorEq,List.replicate])
 (refine zC (h) ?_)
 simp only[go_sem,seval,reduceCtorEq]
 (refine zE ?_ ?_<;>try simp only[go_sem,seval,reduceCtorEq])
theorem LJ {N:Net} (hN:Gen6 N) {wd:Nat} (hw:ai N.rg=wd):TSz 1048576 (Sem.nvR N wd):=Sem.xx (an.1 hN.ok).1 hw (Sem.nv6 hN (an.1 hN.ok).1 hw).1 (os6 hN)
end Go.Proofs.YtjfmckhbmdjnpaaGreat
