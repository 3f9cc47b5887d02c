/-
 Contracts: tensors replaced, environments, by the program; tensors made like another, by the reference. No condition.
-/
import Derived.Test.YtjfmckhbmdjnpaaGreatMgDecompositionsA
import Derived.Test.YtjfmckhbmdjnpaaGreatCtrB
import Derived.Test.YtjfmckhbmdjnpaaGreatOrdT
import Derived.Test.YtjfmckhbmdjnpaaGreatNvA
set_option linter.unusedSimpArgs false
set_option linter.unusedVariables false
namespace Go.Proofs.YtjfmckhbmdjnpaaGreat
open Go.RowKit Go.Lift Plain
set_option maxRecDepth 100000
section
variable {ts : List Ten} {i k : Nat} {t : Ten}
end
set_option maxRecDepth 100000
theorem rD {xs:List Int} (h:xs.length≤1048576):Does Tryz.prog 45 [.d (ints xs),.d (ints xs)] [] (.d (.bool true)) []:=by
 have c0:((xs.length:Int)==xs.length)=true:=by simp
 (refine spec_of (by kernel_rfl) Tryz.func45 yW (fnOk (nb rfl) ?_);unfold sG)
 (simp only[Nat.reduceSub,Zl,zn,Nat.reduceAdd,zF];try simp only[af]);(simp only[go_sem,seval,reduceCtorEq,List.replicate])
 refine aN (xs.length) (mkB 32 134216816) (fun k=>[(9,.d (.int k))]) (fun k=>[]) (h1:=by first | (simp only[go_sem,seval,reduceCtorEq,nz,na,n1];first | done | rfl) | rfl) (h2:=by first | (simp only[go_sem,seval,reduceCtorEq,nz,na,n1];first | done | rfl) | rfl) (hr:=fun k hk=> ?_)
 unfold qV
 by_cases hlt:k<xs.length
 ·have d1:(k:Int)<xs.length:=by omega
  have d2:¬ (k:Int)≥xs.length:=by omega
  have g:xs[k]? =some xs[k]:=zg hlt
  have c:(xs[k] !=xs[k])=false:=by simp
  simp(disch:=omega) only[go_sem,seval,reduceCtorEq,d1,d2,g,c]
  (refine Next.drop (mkB 32 134216816) (by omega) (h1:= ?_) (h2:= ?_)<;>first | (simp only[go_sem,seval,reduceCtorEq,nz,na,n1];first | done | rfl) | rfl | skip)
 ·have d1:¬ (k:Int)<xs.length:=by omega
  simp(disch:=omega) only[go_sem,seval,reduceCtorEq,d1,c0]
  (refine zE ?_ ?_<;>try simp only[go_sem,seval,reduceCtorEq])
theorem C1 {t:Ten} (h:TSz 1048576 t):Does Tryz.prog 12 [tenA t,tenA t] [] (.d (.bool true)) []:=by
 (refine spec_of (by kernel_rfl) Tryz.func12 yV (fnOk (nb rfl) ?_);unfold sF)
 (simp only[Nat.reduceSub,Zl,zn,Nat.reduceAdd,zF];try simp only[af]);(simp only[go_sem,seval,reduceCtorEq,List.replicate])
 (refine zC (rD (xs:=t.labels) h.l.len) ?_)
 simp only[go_sem,seval,reduceCtorEq]
 (refine zC (rD (xs:=t.dims) h.d.len) ?_)
 simp only[go_sem,seval,reduceCtorEq]
 (refine zC (rD (xs:=t.data) h.x.len) ?_)
 simp only[go_sem,seval,reduceCtorEq]
 (refine zE ?_ ?_<;>try simp only[go_sem,seval,reduceCtorEq])
theorem FT {N:Net} (hN:Gen6 N) {wd:Nat} (hw:ah N.rg=wd):Does Tryz.prog 13 [netA N] [] (tenA (Sem.nvR N wd)) []:=by
 have h:=NetworkValue_d hN hw
 generalize Sem.nvR N wd=V at*
 (refine spec_of (by kernel_rfl) Tryz.func13 xw (fnOk (nb rfl) ?_);unfold qY)
 (simp only[Nat.reduceSub,Zl,zn,Nat.reduceAdd,zF];try simp only[af]);(simp only[go_sem,seval,reduceCtorEq,List.replicate])
 (refine zC (h) ?_)
 simp only[go_sem,seval,reduceCtorEq]
 (refine zE ?_ ?_<;>try simp only[go_sem,seval,reduceCtorEq])
theorem JX {N:Net} (hN:Gen6 N) {wd:Nat} (hw:ah N.rg=wd):TSz 1048576 (Sem.nvR N wd):=Sem.tF (ay.1 hN.ok).1 hw (Sem.nv6 hN (ay.1 hN.ok).1 hw).1 (os6 hN)
theorem vt {b:List Int} (hb:CodeOk b) {c:Cur} (hi:c.i≤b.length) {xs:List Int} (hn:xs.length≤1048576):
  Does Tryz.prog 50 [.ptr 0 0,.d (ints xs)] [curS b c] (.own 1 0 xs.length) [curS b (bp b c xs xs.length).1,some ⟨1,true,iv (bp b c xs xs.length).2⟩]:=by
 (refine spec_of (by kernel_rfl) Tryz.func50 iZ (fnOk (nb rfl) ?_);unfold eO)
 unfold curS curR curC
 (simp only[Nat.reduceSub,Zl,zn,Nat.reduceAdd,zF];try simp only[af]);(simp only[go_sem,seval,reduceCtorEq,List.replicate])
 (refine zC (om (xs:=xs) (by omega)) ?_)
 simp only[go_sem,seval,reduceCtorEq]
 have e0:(bp b c xs 0).1=c:=rfl
 have e1:(bp b c xs 0).2=xs:=rfl
 refine aN (xs.length) (mkB 37 68719460800) (fun k=>[(13,.d (.int k))]) (fun k=>[(0,curC b (bp b c xs k).1.i (bp b c xs k).1.h),(1,iv (bp b c xs k).2)]) (h1:=by first | (simp only[go_sem,seval,reduceCtorEq,nz,na,n1,e0,e1,curC];first | done | rfl) | rfl) (h2:=by first | (simp only[go_sem,seval,reduceCtorEq,nz,na,n1,e0,e1,curC];first | done | rfl) | rfl) (hr:=fun k hk=> ?_)
 unfold dW
 by_cases hlt:k<xs.length
 ·have d1:(k:Int)<xs.length:=by omega
  have hs:bp b c xs (k+1)=((ao b (k+1:Nat) (bp b c xs k).1).2,swp (bp b c xs k).2 k (ao b (k+1:Nat) (bp b c xs k).1).1.toNat):=rfl
  have hl:=kG b c xs k
  have hck:=qC hi xs k
  generalize bp b c xs k=S at hs hl hck
  obtain⟨c1,L⟩:=S
  simp only at hl hck hs
  have hr:=ct (b:=b) (n:=((k+1:Nat):Int)) (by omega) c1
  have hd:=fJ hb hck (n:=((k+1:Nat):Int)) (by omega)
  generalize ao b ((k+1:Nat):Int) c1=T at hr hd hs
  obtain⟨r,c2⟩:=T
  simp only at hr hd hs
  obtain⟨q,rfl⟩:=Int.eq_ofNat_of_zero_le hr.1
  have hq:q<L.length:=by omega
  have hk:k<L.length:=by omega
  have g1:L[k]? =some L[k]:=zg hk
  have g2:L[q]? =some L[q]:=zg hq
  have d2:(k:Int)+1=((k+1:Nat):Int):=by omega
  have d3:(q:Int)<L.length:=by omega
  have hsw:swp L k q=(L.set k L[q]).set q L[k]:=by unfold swp;rw[ab hk,ab hq]
  have p1:=cD (xs:=L) (x:=L[q]) hk
  have p2:=cD (xs:=L.set k L[q]) (x:=L[k]) (n:=q) (by rw[List.length_set];exact hq)
  have e1:(bp b c xs (k+1)).1=c2:=by rw[hs]
  have e2:(bp b c xs (k+1)).2=(L.set k L[q]).set q L[k]:=by rw[hs];simp only[Int.toNat_natCast,hsw]
  unfold curS curR curC at hd
  simp(disch:=omega) only[go_sem,seval,reduceCtorEq,d1,curC,d2]
  (refine an [0] [] false (zd rfl) ?_ _ ?_ (hd) ?_ ?_;(focus (simp only[go_sem,seval,reduceCtorEq];done));(focus (simp only[go_sem,seval,reduceCtorEq];done));(focus (first | rfl | (simp only[go_sem,seval,reduceCtorEq];done))))
  simp(disch:=omega) only[go_sem,seval,reduceCtorEq,g1,g2,Option.map_some,p1,p2,List.length_set,hl]
  (repeat (refine And.intro (by omega) ?_))
  (refine Next.drop (mkB 37 68719460800) (by omega) (h1:= ?_) (h2:= ?_)<;>first | (simp only[go_sem,seval,reduceCtorEq,nz,na,n1,e1,e2,curC];first | done | rfl) | rfl | skip)
 ·have d1:¬ (k:Int)<xs.length:=by omega
  obtain rfl:k=xs.length:=by omega
  simp(disch:=omega) only[go_sem,seval,reduceCtorEq,d1,curC]
  (refine zE ?_ ?_<;>try simp only[go_sem,seval,reduceCtorEq])
end Go.Proofs.YtjfmckhbmdjnpaaGreat
