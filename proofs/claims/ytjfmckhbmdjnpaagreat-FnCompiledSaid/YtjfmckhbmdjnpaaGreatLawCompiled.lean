/-
 The law of Compiled: it returns true. No condition.
-/
import Derived.Test.YtjfmckhbmdjnpaaGreatMgCompiledA
import Derived.Test.YtjfmckhbmdjnpaaGreatMacF
import Derived.Test.YtjfmckhbmdjnpaaGreatMacB
import Derived.Test.YtjfmckhbmdjnpaaGreatEnvA
import Derived.Test.YtjfmckhbmdjnpaaGreatGenA
set_option linter.unusedSimpArgs false
set_option linter.unusedVariables false
namespace Go.Proofs.YtjfmckhbmdjnpaaGreat
open Go.RowKit Go.Lift Plain
set_option maxRecDepth 100000
theorem CompileOrder_no {N:Net} (hN:Gen6 N) (h0:N.ts.length=0):Does Tryz.prog 7 [netA N,.d (stp 0 [])] [] (.tup [.agg [.d (.int 0),.nil],.d (.bool false)]) []:=by
 have hz:=hN.sz
 have hF:StpSz 1048576 0 []:=⟨rfl,by omega,fun x hx=>by cases hx⟩
 have e0:((N.ts.length:Int)==0)=true:=by simp [h0]
 have ho:=mO hz hF
 (refine spec_of (by kernel_rfl) Tryz.func7 ig (fnOk (nb rfl) ?_);unfold dX)
 simp only[netA,stp]
 (simp only[Nat.reduceSub,Zl,zn,Nat.reduceAdd,zF];try simp only[af]);(simp only[go_sem,seval,reduceCtorEq,List.replicate])
 (refine aA (ho) ?_ ?_ ?_;(focus (simp only[go_sem,seval,reduceCtorEq,netA,stp];done));(first | rfl | (focus (simp only[go_sem];done))))
 cases hok:aX N 0 []
 ·simp(disch:=omega) only[go_sem,seval,reduceCtorEq]
  (refine zE ?_ ?_<;>try simp only[go_sem,seval,reduceCtorEq])
 ·simp(disch:=omega) only[go_sem,seval,reduceCtorEq,e0,tens]
  (refine zE ?_ ?_<;>try simp only[go_sem,seval,reduceCtorEq])
theorem GA (l:List Opn):idsL (opR l)=[]:=by
 have h:∀ L:List D,idsL (L.map .d)=[]:=fun L=>by
  induction L with
  | nil=>rfl
  | cons x L ih=>simp only[List.map_cons,idsL,idsA,ih,List.nil_append]
 exact h _
theorem OpsOk.tail {o:Opn} {l ops:List Opn} (h:OpsOk ops) (e:ops=o :: l):OpsOk l:=by
 subst e
 have hn:=h.n
 rw[Zl]at hn
 exact⟨by omega,fun x hx=>h.kd x (List.mem_cons_of_mem _ hx),fun x hx=>h.A x (List.mem_cons_of_mem _ hx),fun x hx=>h.B x (List.mem_cons_of_mem _ hx),fun x hx=>h.C x (List.mem_cons_of_mem _ hx),fun x hx=>h.L x (List.mem_cons_of_mem _ hx)⟩
set_option maxHeartbeats 3200000 in
theorem x8 {b:List Int} (hl:b.length≤9223372036854775807) (hwf:∀ x∈b,0≤x∧x≤255):
  Does Tryz.prog 3 [.d (bytes b)] [] (.d (.bool true)) []:=by
 by_cases h0:(b.length:Int)>1048576
 ·(refine spec_ofK (by kernel_rfl) Tryz.func3 fm (fnOk (nb rfl) ?_);unfold dw)
  unfold bytes
  (simp only[Nat.reduceSub,Zl,zn,Nat.reduceAdd,zF];try simp only[af]);(simp only[go_sem,seval,reduceCtorEq,List.replicate])
  simp(disch:=omega) only[go_sem,seval,reduceCtorEq,h0]
  (refine zE ?_ ?_<;>try simp only[go_sem,seval,reduceCtorEq])
 have hb:CodeOk b:=⟨by omega,hwf⟩
 obtain⟨kk,pp,nn,hr,hring⟩:=MakeRing_d hb (m:=0) (by omega)
 obtain⟨N,⟨hN,hm5,hrg⟩,hnet⟩:=MakeNetwork_d hb (m:=10) (by omega) hr (most:=5) (by omega)
 by_cases hm:N.ts.length=0
 ·have ho:=CompileOrder_no hN hm
  have e0:((N.ts.length:Int)==0)=true:=by simp [hm]
  unfold bytes at*
  (refine spec_ofK (by kernel_rfl) Tryz.func3 fm (fnOk (nb rfl) ?_);unfold dw)
  (simp only[Nat.reduceSub,Zl,zn,Nat.reduceAdd,zF];try simp only[af]);(simp only[go_sem,seval,reduceCtorEq,List.replicate])
  simp(disch:=omega) only[go_sem,seval,reduceCtorEq,h0]
  (refine zC (hring) ?_)
  simp only[go_sem,seval,reduceCtorEq]
  (refine zC (hnet) ?_)
  simp only[go_sem,seval,reduceCtorEq,netA,e0]
  (refine aA (ho) ?_ ?_ ?_;(focus (simp only[go_sem,seval,reduceCtorEq,netA,stp];done));(first | rfl | (focus (simp only[go_sem];done))))
  simp only[go_sem,seval,reduceCtorEq]
  (refine zE ?_ ?_<;>try simp only[go_sem,seval,reduceCtorEq])
 have hm0:0<N.ts.length:=by omega
 have hm2:N.ts.length≤11:=by omega
 obtain⟨F,⟨hord,hF⟩,hmo⟩:=MakeOrder_d hb (m:=100) (by omega) hN
 generalize N.ts.length-1=n at hord hF hmo
 have hz:=hN.sz
 have hwb:=cr hr
 obtain⟨wd,hw⟩:=Int.eq_ofNat_of_zero_le (a:=ai ⟨kk,pp,nn⟩) (by omega)
 rw[← hrg]at hw
 have hC:=M8 hN hw hord hm0 hm2
 have hco:=CompileOrder_d hN hw hord hF hm0 hm2
 have hrun:=RunCode_d hN hw hord hm0 hC
 obtain⟨c1,c2,c3⟩:=sy hN hord hw hm0 hm2
 have hoo:=hC.oo
 have hpk:=CodePeak_d hN hoo c1
 have hok1:=CodeOk_d hN hoo (R:=(cmpZ N n F).R) (by omega)
 rw[c1]at hok1
 have hless:=EM (N:=N) (n:=n) (F:=F) (by omega)
 have hok2:=CodeOk_d hN hoo (R:=(cmpZ N n F).R-1) (by omega)
 rw[hless]at hok2
 obtain⟨o,rest,eo,hk⟩:=EN c1
 have htl:cl N (cmpZ N n F).R rest=false:=EL hk (eo ▸ c1)
 have hok3:=CodeOk_d hN (hoo.tail eo) (R:=(cmpZ N n F).R) (by omega)
 rw[htl]at hok3
 have hW:=Hx hN hw
 have hsm:=DH (LJ hN hw)
 have pF:=zo hz hF
 have hple:=Il hN hord hw hm0 hm2
 have hlen:=wP hN hord hw hm0
 have hl1:(aV N n F).length=rest.length+1:=by rw[eo];rfl
 have hop:opD (aV N n F)=[.int o.kind,.int o.A,.int o.B,.int o.C,ints o.L]++opD rest:=by rw[eo];rfl
 have e0:((N.ts.length:Int)==0)=false:=by rw[beq_eq_false_iff_ne];omega
 have eR:((cmpZ N n F).R:Int)-1=(((cmpZ N n F).R-1:Nat):Int):=by omega
 generalize Sem.nvR N wd=V at*
 generalize eG N n F=pk at*
 generalize pkC N (cmpZ N n F).R (aV N n F) (aV N n F).length=pc at*
 generalize (cmpZ N n F).R=R at*
 generalize aV N n F=ops at*
 have e1:¬ pc<pk:=by omega
 have e2:((ops.length:Int) !=2*N.ts.length)=false:=by rw[bne_eq_false_iff_eq];omega
 have hcut:(opD ops).drop 5=opD rest:=by rw[hop];rfl
 have hq:((ops.length:Int)-1).toNat=rest.length:=by omega
 have htk:List.take (rest.length*5) (opD rest)=opD rest:=zt (by rw[uX];omega)
 have hon:=hoo.n
 have htr:List.take (rest.length*5) (opR rest)=opR rest:=zt (by rw[CN];omega)
 have hmap:List.map AV.d (opD rest)=opR rest:=rfl
 unfold bytes at*
 (refine spec_ofK (by kernel_rfl) Tryz.func3 fm (fnOk (nb rfl) ?_);unfold dw)
 (simp only[Nat.reduceSub,Zl,zn,Nat.reduceAdd,zF];try simp only[af]);(simp only[go_sem,seval,reduceCtorEq,List.replicate])
 simp(disch:=omega) only[go_sem,seval,reduceCtorEq,h0]
 (refine zC (hring) ?_)
 simp only[go_sem,seval,reduceCtorEq]
 (refine zC (hnet) ?_)
 simp only[go_sem,seval,reduceCtorEq,netA,e0]
 (refine aA (hmo) ?_ ?_ ?_;(focus (simp only[go_sem,seval,reduceCtorEq,netA];done));(first | rfl | (focus (simp only[go_sem];done))))
 simp only[go_sem,seval,reduceCtorEq]
 (refine aA (hco) ?_ ?_ ?_;(focus (simp only[go_sem,seval,reduceCtorEq,netA];done));(first | rfl | (focus (simp only[go_sem];done))))
 simp only[go_sem,seval,reduceCtorEq,ii]
 (refine aA (hrun) ?_ ?_ ?_;(focus (simp only[go_sem,seval,reduceCtorEq,netA,ii];done));(first | rfl | (focus (simp only[go_sem];done))))
 simp only[go_sem,seval,reduceCtorEq]
 (refine aA (hpk) ?_ ?_ ?_;(focus (simp only[go_sem,seval,reduceCtorEq,netA,ii];done));(first | rfl | (focus (simp only[go_sem];done))))
 simp only[go_sem,seval,reduceCtorEq]
 (refine cE (hok1) ?_ ?_ ?_;(focus (simp only[go_sem,seval,reduceCtorEq,netA,ii];done));(first | rfl | (focus (simp only[go_sem];done))))
 simp only[go_sem,seval,reduceCtorEq]
 (refine cE (hW) ?_ ?_ ?_;(focus (simp only[go_sem,seval,reduceCtorEq,netA];done));(first | rfl | (focus (simp only[go_sem];done))))
 simp only[go_sem,seval,reduceCtorEq]
 (refine zD (hsm) ?_)
 simp only[go_sem,seval,reduceCtorEq]
 (refine cE (pF) ?_ ?_ ?_;(focus (simp only[go_sem,seval,reduceCtorEq,netA];done));(first | rfl | (focus (simp only[go_sem];done))))
 simp(disch:=omega) only[go_sem,seval,reduceCtorEq,e1,e2,hq,hcut,htk,Nat.le_refl,if_true]
 refine⟨by omega, ?_⟩
 simp(disch:=omega) only[go_sem,seval,reduceCtorEq,hq,hcut,htk,Nat.le_refl,if_true,eR,hmap,GA]
 refine⟨by omega, ?_⟩
 (refine aA (hok3) ?_ ?_ ?_;(focus (simp only[go_sem,seval,reduceCtorEq,netA,ii,htr];done));(first | rfl | (focus (simp only[go_sem];done))))
 simp only[go_sem,seval,reduceCtorEq]
 (refine aA (hok2) ?_ ?_ ?_;(focus (simp only[go_sem,seval,reduceCtorEq,netA,ii];done));(first | rfl | (focus (simp only[go_sem];done))))
 simp only[go_sem,seval,reduceCtorEq]
 (refine zE ?_ ?_<;>try simp only[go_sem,seval,reduceCtorEq])
theorem z4 (W:World) {v0:Value} {b:List Int} (w0:BytIn W v0 b):
  Calls Tryz.prog 3 #[v0] W (RetV W (.bool true)):=by
 refine Does.calls (x8 w0.len w0.wf) W [_] ?_
 simp only[RelL]
 exact⟨_,_,rfl,w0.rel,rfl⟩
end Go.Proofs.YtjfmckhbmdjnpaaGreat
