/-
 The law of Improved: it returns true. No condition.
-/
import Derived.Test.YtneocijmbnhblaaGreatMgImprovedA
import Derived.Test.YtneocijmbnhblaaGreatImpA
import Derived.Test.YtneocijmbnhblaaGreatEnvA
import Derived.Test.YtneocijmbnhblaaGreatGenA
set_option linter.unusedSimpArgs false
set_option linter.unusedVariables false
namespace Go.Proofs.YtneocijmbnhblaaGreat
open Go.RowKit Go.Lift Plain
set_option maxRecDepth 100000
theorem SortOrder_z {N:Net} {n:Nat} {F:List Int} (h:NSz 1048576 N) (hF:StpSz 1048576 n F) (hok:am N n F=true):Does Tryz.prog 19 [netA N,.d (stp n F)] [] (.tup [.d (stp n (dX N n F)),.d (.bool true)]) []:=by
 obtain⟨e1,_,e3,_⟩:=vm hok hF.l
 have hd:=uB h hF
 rw[e1,hok]at hd
 exact Does.fzSB (g:=true) hd bI (by rw[cJ,e3.l])
set_option maxHeartbeats 3200000 in
theorem rL {b:List Int} (hl:b.length≤9223372036854775807) (hwf:∀ x∈b,0≤x∧x≤255):
  Does Tryz.prog 4 [.d (bytes b)] [] (.d (.bool true)) []:=by
 by_cases h0:(b.length:Int)>1048576
 ·(refine spec_of (by kernel_rfl) Tryz.func4 i4 (fnOk (nb rfl) ?_);unfold C_laws_FnImproved)
  unfold bytes
  (simp only[Nat.reduceSub,Zl,zn,Nat.reduceAdd,zF];try simp only[ae]);(simp only[go_sem,seval,reduceCtorEq,List.replicate])
  simp(disch:=omega) only[go_sem,seval,reduceCtorEq,h0]
  (refine zE ?_ ?_<;>try simp only[go_sem,seval,reduceCtorEq])
 have hb:CodeOk b:=⟨by omega,hwf⟩
 obtain⟨kk,pp,nn,hr,hring⟩:=MakeRing_d hb (m:=0) (by omega)
 obtain⟨N,⟨hN,_,hrg⟩,hnet⟩:=MakeNetwork_d hb (m:=10) (by omega) hr (most:=5) (by omega)
 obtain⟨F,⟨hord,hF⟩,hmo⟩:=MakeOrder_d hb (m:=100) (by omega) hN
 obtain⟨x,hx,hmn⟩:=MakeNum_d hb (n:=110) (by omega)
 generalize N.ts.length-1=n at hord hF hmo
 have hz:=hN.sz
 have hwb:=cq hr
 obtain⟨wd,hw⟩:=Int.eq_ofNat_of_zero_le (a:=ah ⟨kk,pp,nn⟩) (by omega)
 rw[← hrg]at hw
 have hn20:=hF.n
 obtain⟨A,⟨a1,a2,a3⟩,hA⟩:=ImproveOrder_d hN hord hF x
 obtain⟨s1,s2,s3,s4,s5,s6⟩:=vm hord hF.l
 have hS:=SortOrder_z hz hF hord
 have hS2:=SortOrder_z hz s3 s2
 rw[s6]at hS2
 obtain⟨C,⟨c1,c2,_⟩,hC⟩:=CompleteOrder_d hN hord hF (c:=n / 2) (by omega)
 obtain⟨G,⟨g1,g2,g3⟩,hG⟩:=CompleteOrder_d hN hord hF (Nat.le_refl n)
 have g4:F=G:=(g3 rfl).symm
 subst g4
 rw[u5 hF]at hG
 have hcA:=Contract_d hN hw a1 a2
 have hcS:=Contract_d hN hw s2 s3
 have hcC:=Contract_d hN hw c1 c2
 have hW:=Dc hN hw
 have hsm:=zu (GV hN hw)
 have oA:=eV hz a2
 have oF:=eV hz hF
 have oS:=eV hz s3
 have pF:=mI hz hF
 have pS:=mI hz s3
 rw[s4]at oS
 rw[s5]at pS
 have tS:=q9 s3
 have tF:=q9 hF
 have kC:=dN hz c2
 rw[c1]at kC
 have e1:((bg N n F)==bg N n F)=true:=by simp
 have e2:((d7 N n F)==d7 N n F)=true:=by simp
 have t2:(n:Int).tdiv 2=((n / 2:Nat):Int):=lU n 2
 generalize Sem.nvR N wd=V at*
 generalize dX N n F=S at*
 generalize bg N n A=cA at*
 generalize bg N n F=cF at*
 generalize d7 N n F=pF' at*
 unfold bytes at*
 (refine spec_of (by kernel_rfl) Tryz.func4 i4 (fnOk (nb rfl) ?_);unfold C_laws_FnImproved)
 (simp only[Nat.reduceSub,Zl,zn,Nat.reduceAdd,zF];try simp only[ae]);(simp only[go_sem,seval,reduceCtorEq,List.replicate])
 simp(disch:=omega) only[go_sem,seval,reduceCtorEq,h0]
 (refine zC (hring) ?_)
 simp only[go_sem,seval,reduceCtorEq]
 (refine zC (hnet) ?_)
 simp only[go_sem,seval,reduceCtorEq]
 (refine zC (hmo) ?_)
 simp only[go_sem,seval,reduceCtorEq]
 (refine zD (hmn) ?_)
 simp only[go_sem,seval,reduceCtorEq]
 (refine zD (hA) ?_)
 simp only[go_sem,seval,reduceCtorEq]
 (refine zC (hS) ?_)
 simp(disch:=omega) only[go_sem,seval,reduceCtorEq,t2]
 refine⟨by omega, ?_⟩
 simp only[Int.sub_zero,Int.toNat_natCast]
 (refine zD (hC) ?_)
 simp only[go_sem,seval,reduceCtorEq]
 (refine zC (hS2) ?_)
 simp only[go_sem,seval,reduceCtorEq]
 (refine zC (hcA) ?_)
 simp only[go_sem,seval,reduceCtorEq]
 (refine zC (hcS) ?_)
 simp only[go_sem,seval,reduceCtorEq]
 (refine zC (hcC) ?_)
 simp only[go_sem,seval,reduceCtorEq]
 (refine zD (hW) ?_)
 simp only[go_sem,seval,reduceCtorEq]
 (refine zD (hsm) ?_)
 simp only[go_sem,seval,reduceCtorEq]
 (refine zD (hsm) ?_)
 simp only[go_sem,seval,reduceCtorEq]
 (refine zC (hsm) ?_)
 simp only[go_sem,seval,reduceCtorEq]
 (refine zC (hG) ?_)
 simp only[go_sem,seval,reduceCtorEq]
 (refine zD (oA) ?_)
 simp only[go_sem,seval,reduceCtorEq]
 (refine zD (oF) ?_)
 simp only[go_sem,seval,reduceCtorEq,a3]
 (refine zD (oS) ?_)
 simp only[go_sem,seval,reduceCtorEq]
 (refine zD (oF) ?_)
 simp only[go_sem,seval,reduceCtorEq,e1]
 (refine zD (pS) ?_)
 simp only[go_sem,seval,reduceCtorEq]
 (refine zD (pF) ?_)
 simp only[go_sem,seval,reduceCtorEq,e2]
 (refine zD (tS) ?_)
 simp only[go_sem,seval,reduceCtorEq]
 (refine zD (tF) ?_)
 simp only[go_sem,seval,reduceCtorEq]
 (refine zC (kC) ?_)
 simp only[go_sem,seval,reduceCtorEq]
 (refine zE ?_ ?_<;>try simp only[go_sem,seval,reduceCtorEq])
theorem un (W:World) {v0:Value} {b:List Int} (w0:BytIn W v0 b):
  Calls Tryz.prog 4 #[v0] W (RetV W (.bool true)):=by
 refine Does.calls (rL w0.len w0.wf) W [_] ?_
 simp only[RelL]
 exact⟨_,_,rfl,w0.rel,rfl⟩
end Go.Proofs.YtneocijmbnhblaaGreat
