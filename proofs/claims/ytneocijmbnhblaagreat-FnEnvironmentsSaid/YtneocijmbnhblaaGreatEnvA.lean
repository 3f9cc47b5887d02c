/-
 Contracts: tensors replaced, environments, by the program; tensors made like another, by the reference. No condition.
-/
import Derived.Test.YtneocijmbnhblaaGreatMgEnvironmentsA
import Derived.Test.YtneocijmbnhblaaGreatCtrB
import Derived.Test.YtneocijmbnhblaaGreatOrdT
import Derived.Test.YtneocijmbnhblaaGreatNvA
set_option linter.unusedSimpArgs false
set_option linter.unusedVariables false
namespace Go.Proofs.YtneocijmbnhblaaGreat
open Go.RowKit Go.Lift Plain
set_option maxRecDepth 100000
section
variable {ts : List Ten} {i k : Nat} {t : Ten}
theorem wP:∀ {ts:List Ten} {k:Nat} {t:Ten},k<ts.length→(tcs ts).take (k*3)++[ints t.labels,ints t.dims,ints t.data]++(tcs ts).drop (k*3+3)=tcs (ts.set k t)
 | [],_,_,h=>by simp at h
 | x :: l,0,t,h=>by simp [tcs]
 | x :: l,k+1,t,h=>by
  have:=wP (ts:=l) (k:=k) (t:=t) (by simpa using h)
  rw[tcs,show (k+1)*3=k*3+3 by omega,List.set_cons_succ,tcs, ← this]
  simp
theorem uu (h:k<ts.length):(rowD ts).take (k*3)++[.d (.sl t.labels.length (dv t.labels)),.d (.sl t.dims.length (dv t.dims)),.d (.sl t.data.length (dv t.data))]++(rowD ts).drop (k*3+3)=rowD (ts.set k t):=by
 unfold rowD
 rw[← wP h,List.map_append,List.map_append,List.map_take,List.map_drop]
 rfl
end
theorem mQ {t:Ten} (h:TSz 1048576 t):Does Tryz.prog 41 [tenA t] [] (tenA t) []:=mO (mR h)
theorem kh {N:Net} (h:NSz 1048576 N):Does Tryz.prog 30 [netA N] [] (ownN 0 N) [some ⟨3,true,rowD N.ts⟩,some ⟨1,true,iv N.os⟩]:=by
 have hnl:=h.l
 have hr0:rowD []=[]:=rfl
 (refine spec_of (by kernel_rfl) Tryz.func30 gA (fnOk (nb rfl) ?_);unfold C_impl_copyNetwork)
 (simp only[Nat.reduceSub,List.length_cons,List.length_nil,Nat.reduceAdd,am,al,aj,ai,ah,af,ae,ac];try simp only[au]);(simp only[go_sem,seval,reduceCtorEq,List.replicate])
 (refine aC (cz (xs:=N.os) h.o.up.len) ?_ ?_ ?_;(focus (simp only[go_sem,seval,reduceCtorEq];done));(first | rfl | (focus (simp only[go_sem];done))))
 simp only[go_sem,seval,reduceCtorEq]
 (refine cN (Wk.nilS 3 3 3 _ _ _ rfl rfl) ?_;simp only[go_sem,seval,reduceCtorEq])
 refine aZ (N.ts.length) (mkB 28 134152224) (fun k=>[(15,.d (.int k))]) (fun k=>[(3,[.d (.int N.k),.d (.int N.p),.d (.int N.n),.own 4 0 k,.own 2 0 N.os.length]),(4,rowD (N.ts.take k))]) (h1:=by first | (simp only[go_sem,seval,reduceCtorEq,nz,na,n1,List.take_zero,hr0];first | done | rfl) | rfl) (h2:=by first | (simp only[go_sem,seval,reduceCtorEq,nz,na,n1,List.take_zero,hr0];first | done | rfl) | rfl) (hr:=fun k hk=> ?_)
 unfold L0_impl_copyNetwork
 by_cases hlt:k<N.ts.length
 ·have d1:(k:Int)<N.ts.length:=by omega
  have g3:=dd (List.getElem?_eq_getElem hlt)
  have hst:=h.t N.ts[k] (List.getElem_mem hlt)
  simp(disch:=omega) only[go_sem,seval,reduceCtorEq,d1,g3]
  (repeat (refine And.intro (by omega) ?_))
  (refine aC (mQ (t:=N.ts[k]) hst) ?_ ?_ ?_;(focus (simp only[go_sem,seval,reduceCtorEq];done));(first | rfl | (focus (simp only[go_sem];done))))
  have htl:(N.ts.take k).length=k:=by rw[List.length_take];omega
  have hrow:=n9 (N.ts.take k) N.ts[k]
  rw[← bm hlt]at hrow
  simp(disch:=omega) only[go_sem,seval,reduceCtorEq,htl]
  (repeat (refine And.intro (by omega) ?_))
  (refine Next.drop (mkB 28 134152224) (by omega) (h1:= ?_) (h2:= ?_)<;>first | (simp only[go_sem,seval,reduceCtorEq,nz,na,n1,hrow];first | done | rfl) | rfl | skip)
 ·have d1:¬ (k:Int)<N.ts.length:=by omega
  obtain rfl:k=N.ts.length:=by omega
  simp(disch:=omega) only[go_sem,seval,reduceCtorEq,d1,List.take_length]
  (refine FnEnd.mk (nb rfl) rfl (of_decide_eq_true rfl) ?_ ?_<;>try simp only[go_sem,seval,reduceCtorEq])
theorem ReplaceTensor_d {N:Net} (hN:Gen6 N) {k:Nat} (hk:k<N.ts.length) {t:Ten} (ht:TSz 1048576 t) (ha:alB N.rg N.ts[k] t=true):
  Does Tryz.prog 11 [netA N,.d (.int k),tenA t] [] (.tup [netA (Sem.repN N k t),.d (.bool true)]) []:=by
 have hz:=hN.sz
 have hnl:=hz.l
 have hkz:=hz.t N.ts[k] (List.getElem_mem hk)
 have hal:=iH (vc (kk:=N.k) (pp:=N.p) (nn:=N.n) (t:=N.ts[k]) (u:=t) hz.k hz.p hz.n hkz ht)
 rw[show (⟨N.k,N.p,N.n⟩:Rg)=N.rg from rfl,ha]at hal
 generalize alR N.rg N.ts[k] t=A at hal
 have g3:=dd (List.getElem?_eq_getElem hk)
 have c1:¬ (k:Int)<0:=by omega
 have c2:¬ (k:Int)≥N.ts.length:=by omega
 have c3:(k:Int)<N.ts.length:=by omega
 have hset:=uu (t:=t) hk
 have hsl:(N.ts.set k t).length=N.ts.length:=List.length_set
 refine Does.fzNB (g:=true) (g':=true) ?_ (gZ _)
 unfold Sem.repN
 simp only[ownN,hsl]
 (refine spec_of (by kernel_rfl) Tryz.func11 jW (fnOk (nb rfl) ?_);unfold C_impl_ReplaceTensor)
 (simp only[Nat.reduceSub,List.length_cons,List.length_nil,Nat.reduceAdd,am,al,aj,ai,ah,af,ae,ac];try simp only[au]);(simp only[go_sem,seval,reduceCtorEq,List.replicate])
 (refine aa (df hz) ?_ ?_ ?_;(focus (simp only[go_sem,seval,reduceCtorEq];done));(first | rfl | (focus (simp only[go_sem];done))))
 simp(disch:=omega) only[go_sem,seval,reduceCtorEq,hN.ok,c1,c2,c3,g3]
 refine⟨by omega, ?_⟩
 (refine aC (hal) ?_ ?_ ?_;(focus (simp only[go_sem,seval,reduceCtorEq];done));(first | rfl | (focus (simp only[go_sem];done))))
 simp only[go_sem,seval,reduceCtorEq]
 (refine aa (kh hz) ?_ ?_ ?_;(focus (simp only[go_sem,seval,reduceCtorEq];done));(first | rfl | (focus (simp only[go_sem];done))))
 simp only[go_sem,seval,reduceCtorEq]
 (refine aC (mQ (t:=t) ht) ?_ ?_ ?_;(focus (simp only[go_sem,seval,reduceCtorEq];done));(first | rfl | (focus (simp only[go_sem];done))))
 have hcut:=uw (List.getElem?_eq_getElem hk)
 simp(disch:=omega) only[go_sem,seval,reduceCtorEq,c3,hset]
 refine⟨by omega,by rw[hcut];rfl, ?_⟩
 (refine FnEnd.mk (nb rfl) rfl (of_decide_eq_true rfl) ?_ ?_<;>try simp only[go_sem,seval,reduceCtorEq])
theorem Cd {kk pp nn:Int} {wd:Nat} (hr:aq ⟨kk,pp,nn⟩=true) (hw:ar ⟨kk,pp,nn⟩=wd) (h1:1≤wd∧wd≤6):Does Tryz.prog 32 [bn kk pp nn] [] (.d (ints (oneE ⟨kk,pp,nn⟩ wd))) []:=by
 have h:=rM hr hw h1
 have hl:=dF ⟨kk,pp,nn⟩ wd
 generalize oneE ⟨kk,pp,nn⟩ wd=e at*
 subst hl
 exact h.fzI
theorem tF {kk pp nn:Int} {wd n:Nat} {ls ds z:List Int} (hz:z.length=wd) (h1:1≤wd∧wd≤6) (hls:ls.length≤1048576) (hds:ds.length≤1048576) (hd:∀ d∈ds,1≤d) (hn:ab ds=n) (hn2:n≤4096):
  Does Tryz.prog 31 [bn kk pp nn,.d (ints ls),.d (ints ds),.d (ints z)] [] (tenA ⟨ls,ds,repE z n⟩) []:=mO (mL hz h1 hls hds hd hn hn2)
theorem PlainOrder_z {N:Net} (h:NSz 1048576 N):Does Tryz.prog 34 [netA N] [] (.d (stp (dr N) (bw N.ts.length (dr N)))) []:=Does.fzS (g:=true) (rz h) (fD _ _)
theorem Environment_d {N:Net} (hN:Gen6 N) {wd:Nat} (hw:ar N.rg=wd) {k:Nat} (hk:k<N.ts.length):
  Does Tryz.prog 7 [netA N,.d (.int k)] [] (.tup [tenA (Sem.nvR (Sem.envN N wd k N.ts[k]) wd),.d (.bool true)]) []:=by
 have hz:=hN.sz
 have hr:=(ay.1 hN.ok).1
 have hr':aq ⟨N.k,N.p,N.n⟩=true:=hr
 have hw':ar ⟨N.k,N.p,N.n⟩=wd:=hw
 have hwb:=wd6 hr hw
 have hnl:=hz.l
 have hol:=hz.o.len
 have hmem:=List.getElem_mem hk
 have hkz:=hz.t N.ts[k] hmem
 have hkl:=hkz.l.len
 have hE:=Sem.env6 hN hw hk
 have hEz:=hE.sz
 obtain⟨wd',n,e1,e2,e3,e4,e5,e6,e7,e8,e9,e10⟩:=cD ((ay.1 hN.ok).2.2.1 _ hmem)
 have hon:Sem.dW N.rg wd N.ts[k]=⟨N.ts[k].labels,N.ts[k].dims,repE (oneE N.rg wd) n⟩:=by
  unfold Sem.dW
  rw[show bf N.ts[k].dims=n by unfold bf;omega]
 have hfill:=tF (kk:=N.k) (pp:=N.p) (nn:=N.n) (ls:=N.ts[k].labels) (ds:=N.ts[k].dims) (z:=oneE N.rg wd) (dF _ _) hwb (by omega) (by have:=hkz.d.len;omega) (fun d hd=>(e10.dim d hd).1) e2 e6
 rw[← hon]at hfill
 have hP:=PlainOrder_z hEz
 have hC:=Contract_d hE (wd:=wd) hw (uH hE.ok) zN
 have hOk:=df hEz
 rw[hE.ok]at hOk
 have hset:=uu (t:=Sem.dW N.rg wd N.ts[k]) hk
 have hcut:=uw (List.getElem?_eq_getElem hk)
 have hsl:(N.ts.set k (Sem.dW N.rg wd N.ts[k])).length=N.ts.length:=List.length_set
 have g3:=dd (List.getElem?_eq_getElem hk)
 have c1:¬ (k:Int)<0:=by omega
 have c2:¬ (k:Int)≥N.ts.length:=by omega
 have c3:(k:Int)<N.ts.length:=by omega
 have t3:List.take (N.ts.length*3) (tcs (N.ts.set k (Sem.dW N.rg wd N.ts[k])))=tcs (N.ts.set k (Sem.dW N.rg wd N.ts[k])):=by rw[← hsl];exact lG
 generalize bw (Sem.envN N wd k N.ts[k]).ts.length (dr (Sem.envN N wd k N.ts[k]))=PF at*
 generalize dr (Sem.envN N wd k N.ts[k])=PN at*
 generalize Sem.nvR (Sem.envN N wd k N.ts[k]) wd=V at*
 unfold netA tens Sem.envN at hOk hP hC
 simp only[hsl]at hOk hP hC
 generalize Sem.dW N.rg wd N.ts[k]=W at*
 (refine spec_of (by kernel_rfl) Tryz.func7 gB (fnOk (nb rfl) ?_);unfold C_impl_Environment)
 (simp only[Nat.reduceSub,List.length_cons,List.length_nil,Nat.reduceAdd,am,al,aj,ai,ah,af,ae,ac];try simp only[au]);(simp only[go_sem,seval,reduceCtorEq,List.replicate])
 (refine aa (df hz) ?_ ?_ ?_;(focus (simp only[go_sem,seval,reduceCtorEq];done));(first | rfl | (focus (simp only[go_sem];done))))
 simp(disch:=omega) only[go_sem,seval,reduceCtorEq,hN.ok,c1,c2,c3,g3]
 refine⟨by omega, ?_⟩
 (refine aa (kh hz) ?_ ?_ ?_;(focus (simp only[go_sem,seval,reduceCtorEq];done));(first | rfl | (focus (simp only[go_sem];done))))
 simp only[go_sem,seval,reduceCtorEq]
 (refine aC (Cd hr' hw' hwb) ?_ ?_ ?_;(focus (simp only[go_sem,seval,reduceCtorEq];done));(first | rfl | (focus (simp only[go_sem];done))))
 simp only[go_sem,seval,reduceCtorEq]
 have hR:oneE ⟨N.k,N.p,N.n⟩ wd=oneE N.rg wd:=rfl
 (refine aC (hfill) ?_ ?_ ?_;(focus (simp only[go_sem,seval,reduceCtorEq,hR];done));(first | rfl | (focus (simp only[go_sem];done))))
 simp(disch:=omega) only[go_sem,seval,reduceCtorEq,c3,hset]
 refine⟨by omega,by rw[hcut];rfl, ?_⟩
 (refine aa (fU (a:=N.os) (b:=N.ts[k].labels) hol hkl) ?_ ?_ ?_;(focus (simp only[go_sem,seval,reduceCtorEq];done));(first | rfl | (focus (simp only[go_sem];done))))
 simp only[go_sem,seval,reduceCtorEq]
 refine GH.mk (Wk.trans (Wk.freeze 3 (nb rfl) rfl (gZ _) rfl rfl) (Wk.freeze 6 (nb rfl) rfl ((congrArg cL (qF _ _ _ _)).trans bP) rfl rfl)) ?_
 simp only[go_sem,seval,reduceCtorEq,t3]
 (refine aa (hOk) ?_ ?_ ?_;(focus (simp only[go_sem,seval,reduceCtorEq];done));(first | rfl | (focus (simp only[go_sem];done))))
 simp only[go_sem,seval,reduceCtorEq]
 (refine aC (hP) ?_ ?_ ?_;(focus (simp only[go_sem,seval,reduceCtorEq];done));(first | rfl | (focus (simp only[go_sem];done))))
 simp only[go_sem,seval,reduceCtorEq]
 (refine aC (hC) ?_ ?_ ?_;(focus (simp only[go_sem,seval,reduceCtorEq];done));(first | rfl | (focus (simp only[go_sem];done))))
 simp only[go_sem,seval,reduceCtorEq]
 (refine FnEnd.mk (nb rfl) rfl (of_decide_eq_true rfl) ?_ ?_<;>try simp only[go_sem,seval,reduceCtorEq])
theorem Environment_no {N:Net} (h:NSz 1048576 N) (h0:N.ts.length=0):Does Tryz.prog 7 [netA N,.d (.int 0)] [] (.tup [.agg [.nil,.nil,.nil],.d (.bool false)]) []:=by
 have c2:(0:Int)≥N.ts.length:=by omega
 have c3:¬ (0:Int)<0:=by omega
 (refine spec_of (by kernel_rfl) Tryz.func7 gB (fnOk (nb rfl) ?_);unfold C_impl_Environment)
 (simp only[Nat.reduceSub,List.length_cons,List.length_nil,Nat.reduceAdd,am,al,aj,ai,ah,af,ae,ac];try simp only[au]);(simp only[go_sem,seval,reduceCtorEq,List.replicate])
 (refine aa (df h) ?_ ?_ ?_;(focus (simp only[go_sem,seval,reduceCtorEq];done));(first | rfl | (focus (simp only[go_sem];done))))
 cases hok:br N
 ·simp only[go_sem,seval,reduceCtorEq,hok]
  (refine FnEnd.mk (nb rfl) rfl (of_decide_eq_true rfl) ?_ ?_<;>try simp only[go_sem,seval,reduceCtorEq])
 ·simp only[go_sem,seval,reduceCtorEq,hok,c2,c3]
  (refine FnEnd.mk (nb rfl) rfl (of_decide_eq_true rfl) ?_ ?_<;>try simp only[go_sem,seval,reduceCtorEq])
theorem ContractReplaced_d {N:Net} (hN:Gen6 N) {wd:Nat} (hw:ar N.rg=wd) {k:Nat} (hk:k<N.ts.length) {t:Ten} (ht:Nat6 t) (hok:aA N.rg t.labels t.dims t.data=true) (hl:∀ x,x∈t.labels↔x∈N.ts[k].labels):
  Does Tryz.prog 10 [netA N,.d (.int k),tenA t] [] (.tup [tenA (Sem.nvR (Sem.repN N k t) wd),.d (.bool true)]) []:=by
 have hz:=hN.sz
 have hb:=ay.1 hN.ok
 have hr:=hb.1
 have hr':aq ⟨N.k,N.p,N.n⟩=true:=hr
 have hw':ar ⟨N.k,N.p,N.n⟩=wd:=hw
 have hmem:=List.getElem_mem hk
 have hT:=Sem.fO hw ht hok
 have hT0:=Sem.fO hw (hN.six _ hmem) (hb.2.2.1 _ hmem)
 have htz:=ht.sz hok
 have hal:=(Sem.sum6 hr hw hT0 hT (hN.six _ hmem).bd fun x=>(hl x).symm).1
 have hRep:=ReplaceTensor_d hN hk htz hal
 have hEnv:=Environment_d hN hw hk
 have hE:=Sem.env6 hN hw hk
 have hev:=(Sem.nv6 hE hr hw).1
 have hel6:Sem.L6 (Sem.nvR (Sem.envN N wd k N.ts[k]) wd).labels:=os6 hE
 have hez:=Sem.oc hr hw hev hel6
 have o6:=os6 hN
 have hoz:=sz6 (Sem.m6 hN.ok) o6
 obtain⟨c1,c2,c3⟩:=Sem.Bh hr hw hT hev ht.bd hel6 N.os
 obtain⟨tc,_⟩:=Sem.qQ hr hw hT hev N.os
 have hcz:=Sem.oc hr hw tc c3
 have hcok:=Sem.lF hr hw tc c3
 have hval:=Sem.CN hN hw hk ht hok hl
 have hCo:=Be (kk:=N.k) (pp:=N.p) (nn:=N.n) hr' hw' htz hez hoz c1
 have hK:∀ x,x∈(conR N.rg wd t (Sem.nvR (Sem.envN N wd k N.ts[k]) wd) N.os).labels↔x∈N.os:=fun x=>by
  show x∈(conL t (Sem.nvR (Sem.envN N wd k N.ts[k]) wd)).filter (has N.os)↔_
  rw[List.mem_filter,ba]
  refine⟨fun h=>h.2,fun h=>⟨?_,h⟩⟩
  unfold conL
  rw[aX]
  exact .inr (show x∈aK N.os N.ts[k].labels from aX.2 (.inl h))
 have hpB:gg N.rg (conR N.rg wd t (Sem.nvR (Sem.envN N wd k N.ts[k]) wd) N.os) N.os=true:=by
  unfold gg
  rw[hcok,Sem.lS tc.nd (Sem.m6 hN.ok) hK]
  rfl
 have hpT:=nj hpB hw
 have hp:=iH (iA (kk:=N.k) (pp:=N.p) (nn:=N.n) hz.k hz.p hz.n hcz hoz)
 rw[show (⟨N.k,N.p,N.n⟩:Rg)=N.rg from rfl,hpT,hpB,hval]at hp
 rw[show (⟨N.k,N.p,N.n⟩:Rg)=N.rg from rfl]at hCo
 generalize conR N.rg wd t (Sem.nvR (Sem.envN N wd k N.ts[k]) wd) N.os=C at*
 generalize Sem.nvR (Sem.envN N wd k N.ts[k]) wd=V at*
 generalize Sem.nvR (Sem.repN N k t) wd=R at*
 (refine spec_of (by kernel_rfl) Tryz.func10 iz (fnOk (nb rfl) ?_);unfold C_impl_ContractReplaced)
 (simp only[Nat.reduceSub,List.length_cons,List.length_nil,Nat.reduceAdd,am,al,aj,ai,ah,af,ae,ac];try simp only[au]);(simp only[go_sem,seval,reduceCtorEq,List.replicate])
 (refine aa (hRep) ?_ ?_ ?_;(focus (simp only[go_sem,seval,reduceCtorEq];done));(first | rfl | (focus (simp only[go_sem];done))))
 simp only[go_sem,seval,reduceCtorEq]
 (refine aa (hEnv) ?_ ?_ ?_;(focus (simp only[go_sem,seval,reduceCtorEq];done));(first | rfl | (focus (simp only[go_sem];done))))
 simp only[go_sem,seval,reduceCtorEq]
 (refine aa (hCo) ?_ ?_ ?_;(focus (simp only[go_sem,seval,reduceCtorEq];done));(first | rfl | (focus (simp only[go_sem];done))))
 simp only[go_sem,seval,reduceCtorEq]
 (refine aa (hp) ?_ ?_ ?_;(focus (simp only[go_sem,seval,reduceCtorEq];done));(first | rfl | (focus (simp only[go_sem];done))))
 simp only[go_sem,seval,reduceCtorEq]
 (refine FnEnd.mk (nb rfl) rfl (of_decide_eq_true rfl) ?_ ?_<;>try simp only[go_sem,seval,reduceCtorEq])
set_option maxRecDepth 100000
theorem nQ {xs:List Int} (h:xs.length≤1048576):Does Tryz.prog 46 [.d (ints xs),.d (ints xs)] [] (.d (.bool true)) []:=by
 have c0:((xs.length:Int)==xs.length)=true:=by simp
 (refine spec_of (by kernel_rfl) Tryz.func46 v8 (fnOk (nb rfl) ?_);unfold C_laws_ints)
 (simp only[Nat.reduceSub,List.length_cons,List.length_nil,Nat.reduceAdd,am,al,aj,ai,ah,af,ae,ac];try simp only[au]);(simp only[go_sem,seval,reduceCtorEq,List.replicate])
 refine aZ (xs.length) (mkB 32 134216816) (fun k=>[(9,.d (.int k))]) (fun k=>[]) (h1:=by first | (simp only[go_sem,seval,reduceCtorEq,nz,na,n1];first | done | rfl) | rfl) (h2:=by first | (simp only[go_sem,seval,reduceCtorEq,nz,na,n1];first | done | rfl) | rfl) (hr:=fun k hk=> ?_)
 unfold L0_laws_ints
 by_cases hlt:k<xs.length
 ·have d1:(k:Int)<xs.length:=by omega
  have d2:¬ (k:Int)≥xs.length:=by omega
  have g:xs[k]? =some xs[k]:=List.getElem?_eq_getElem hlt
  have c:(xs[k] !=xs[k])=false:=by simp
  simp(disch:=omega) only[go_sem,seval,reduceCtorEq,d1,d2,g,c]
  (refine Next.drop (mkB 32 134216816) (by omega) (h1:= ?_) (h2:= ?_)<;>first | (simp only[go_sem,seval,reduceCtorEq,nz,na,n1];first | done | rfl) | rfl | skip)
 ·have d1:¬ (k:Int)<xs.length:=by omega
  simp(disch:=omega) only[go_sem,seval,reduceCtorEq,d1,c0]
  (refine FnEnd.mk (nb rfl) rfl (of_decide_eq_true rfl) ?_ ?_<;>try simp only[go_sem,seval,reduceCtorEq])
theorem n6 {t:Ten} (h:TSz 1048576 t):Does Tryz.prog 14 [tenA t,tenA t] [] (.d (.bool true)) []:=by
 (refine spec_of (by kernel_rfl) Tryz.func14 v7 (fnOk (nb rfl) ?_);unfold C_laws_same)
 (simp only[Nat.reduceSub,List.length_cons,List.length_nil,Nat.reduceAdd,am,al,aj,ai,ah,af,ae,ac];try simp only[au]);(simp only[go_sem,seval,reduceCtorEq,List.replicate])
 (refine aa (nQ (xs:=t.labels) h.l.len) ?_ ?_ ?_;(focus (simp only[go_sem,seval,reduceCtorEq];done));(first | rfl | (focus (simp only[go_sem];done))))
 simp only[go_sem,seval,reduceCtorEq]
 (refine aa (nQ (xs:=t.dims) h.d.len) ?_ ?_ ?_;(focus (simp only[go_sem,seval,reduceCtorEq];done));(first | rfl | (focus (simp only[go_sem];done))))
 simp only[go_sem,seval,reduceCtorEq]
 (refine aa (nQ (xs:=t.data) h.x.len) ?_ ?_ ?_;(focus (simp only[go_sem,seval,reduceCtorEq];done));(first | rfl | (focus (simp only[go_sem];done))))
 simp only[go_sem,seval,reduceCtorEq]
 (refine FnEnd.mk (nb rfl) rfl (of_decide_eq_true rfl) ?_ ?_<;>try simp only[go_sem,seval,reduceCtorEq])
theorem BE {N:Net} (hN:Gen6 N) {wd:Nat} (hw:ar N.rg=wd):Does Tryz.prog 15 [netA N] [] (tenA (Sem.nvR N wd)) []:=by
 have h:=NetworkValue_d hN hw
 generalize Sem.nvR N wd=V at*
 (refine spec_of (by kernel_rfl) Tryz.func15 tl (fnOk (nb rfl) ?_);unfold C_laws_worth)
 (simp only[Nat.reduceSub,List.length_cons,List.length_nil,Nat.reduceAdd,am,al,aj,ai,ah,af,ae,ac];try simp only[au]);(simp only[go_sem,seval,reduceCtorEq,List.replicate])
 (refine aa (h) ?_ ?_ ?_;(focus (simp only[go_sem,seval,reduceCtorEq];done));(first | rfl | (focus (simp only[go_sem];done))))
 simp only[go_sem,seval,reduceCtorEq]
 (refine FnEnd.mk (nb rfl) rfl (of_decide_eq_true rfl) ?_ ?_<;>try simp only[go_sem,seval,reduceCtorEq])
theorem xf {N:Net} (hN:Gen6 N) {wd:Nat} (hw:ar N.rg=wd):TSz 1048576 (Sem.nvR N wd):=Sem.oc (ay.1 hN.ok).1 hw (Sem.nv6 hN (ay.1 hN.ok).1 hw).1 (os6 hN)
theorem CC {N:Net} (hN:Gen6 N) {wd:Nat} (hw:ar N.rg=wd):Does Tryz.prog 13 [netA N,tenA (Sem.nvR N wd)] [] (.d (.bool true)) []:=by
 have h:=NetworkValue_d hN hw
 have hz:=xf hN hw
 generalize Sem.nvR N wd=V at*
 (refine spec_of (by kernel_rfl) Tryz.func13 tn (fnOk (nb rfl) ?_);unfold C_laws_gives)
 (simp only[Nat.reduceSub,List.length_cons,List.length_nil,Nat.reduceAdd,am,al,aj,ai,ah,af,ae,ac];try simp only[au]);(simp only[go_sem,seval,reduceCtorEq,List.replicate])
 (refine aa (h) ?_ ?_ ?_;(focus (simp only[go_sem,seval,reduceCtorEq];done));(first | rfl | (focus (simp only[go_sem];done))))
 simp only[go_sem,seval,reduceCtorEq]
 (refine aa (n6 hz) ?_ ?_ ?_;(focus (simp only[go_sem,seval,reduceCtorEq];done));(first | rfl | (focus (simp only[go_sem];done))))
 simp only[go_sem,seval,reduceCtorEq]
 (refine FnEnd.mk (nb rfl) rfl (of_decide_eq_true rfl) ?_ ?_<;>try simp only[go_sem,seval,reduceCtorEq])
set_option maxHeartbeats 1600000 in
theorem wc {b:List Int} (hb:CodeOk b) {c:Cur} (hi:c.i≤b.length) {kk pp nn:Int} {wd n:Nat} {ls ds:List Int} (hr:aq ⟨kk,pp,nn⟩=true) (hw:ar ⟨kk,pp,nn⟩=wd) (h1:1≤wd∧wd≤6)
  (hls:ls.length≤1048576) (hds:ds.length≤1048576) (hd:∀ d∈ds,1≤d∧d≤100) (hn:ab ds=n) (hn2:n≤4096):
  Does Tryz.prog 35 [.ptr 0 0,bn kk pp nn,.d (ints ls),.d (ints ds)] [curS b c]
   (.agg [.own 1 0 ls.length,.own 2 0 ds.length,.own 3 0 (n*wd)]) [curS b (bI b ⟨kk,pp,nn⟩ wd n c n).1,some ⟨1,true,iv ls⟩,some ⟨1,true,iv ds⟩,some ⟨1,true,iv (bI b ⟨kk,pp,nn⟩ wd n c n).2⟩]:=by
 have hmn:min (ab ds) 4097=(n:Int):=by omega
 have hz:=bO kk pp wd
 have hzl:=dh (aJ kk pp wd) n
 rw[hz]at hzl
 (refine spec_ofW _ (by kernel_rfl) Tryz.func35 jU (fnOk (nb rfl) ?_);unfold C_spec_l05Fill)
 unfold curS curR curC
 (simp only[Nat.reduceSub,List.length_cons,List.length_nil,Nat.reduceAdd,am,al,aj,ai,ah,af,ae,ac];try simp only[au]);(simp only[go_sem,seval,reduceCtorEq,List.replicate])
 (refine aa (nA (ls:=ls) (ds:=ds) hw h1 hls hds hd hn hn2) ?_ ?_ ?_;(focus (simp only[go_sem,seval,reduceCtorEq];done));(first | rfl | (focus (simp only[go_sem];done))))
 simp only[go_sem,seval,reduceCtorEq,hzl]
 have e0:(bI b ⟨kk,pp,nn⟩ wd n c 0).1=c:=rfl
 have e1:(bI b ⟨kk,pp,nn⟩ wd n c 0).2=repE (aJ kk pp wd) n:=rfl
 refine aZ (n) (mkB 29 268402688) (fun k=>[(10,.d (.int k))]) (fun k=>[(0,curC b (bI b ⟨kk,pp,nn⟩ wd n c k).1.i (bI b ⟨kk,pp,nn⟩ wd n c k).1.h),(5,iv (bI b ⟨kk,pp,nn⟩ wd n c k).2)]) (h1:=by first | (simp only[go_sem,seval,reduceCtorEq,nz,na,n1,e0,e1,curC];first | done | rfl) | rfl) (h2:=by first | (simp only[go_sem,seval,reduceCtorEq,nz,na,n1,e0,e1,curC];first | done | rfl) | rfl) (hr:=fun k hk=> ?_)
 unfold L0_spec_l05Fill
 simp only[go_sem,seval,reduceCtorEq]
 (refine aa (dM (ds:=ds) (lim:=4096) (by omega) hd (by omega)) ?_ ?_ ?_;(focus (simp only[go_sem,seval,reduceCtorEq,hmn];done));(first | rfl | (focus (simp only[go_sem];done))))
 by_cases hlt:k<n
 ·have h2:(k:Int)<n:=by omega
  have hms:=dX (wd:=wd) hlt
  have hnw:n*wd≤4096*6:=Nat.mul_le_mul (by omega) h1.2
  have hs:bI b ⟨kk,pp,nn⟩ wd n c (k+1)=((fL b ⟨kk,pp,nn⟩ wd (bI b ⟨kk,pp,nn⟩ wd n c k).1).1,putE (bI b ⟨kk,pp,nn⟩ wd n c k).2 (k*wd) (fL b ⟨kk,pp,nn⟩ wd (bI b ⟨kk,pp,nn⟩ wd n c k).1).2):=rfl
  have hfl:=g7 (b:=b) (r:=⟨kk,pp,nn⟩) (wd:=wd) (n:=n) (c:=c) k (by omega)
  have hck:=jY (r:=⟨kk,pp,nn⟩) (wd:=wd) (n:=n) hi k
  generalize bI b ⟨kk,pp,nn⟩ wd n c k=S at hs hfl hck
  obtain⟨c1,L⟩:=S
  simp only at hfl hck hs
  have hdr:=s9 hb hck hr hw h1
  have hdl:=nT (b:=b) (r:=⟨kk,pp,nn⟩) (wd:=wd) (c:=c1)
  generalize fL b ⟨kk,pp,nn⟩ wd c1=T at hdr hdl hs
  obtain⟨c2,Y⟩:=T
  simp only at hdr hdl hs
  have e1:(bI b ⟨kk,pp,nn⟩ wd n c (k+1)).1=c2:=by rw[hs]
  have e2:(bI b ⟨kk,pp,nn⟩ wd n c (k+1)).2=putE L (k*wd) Y:=by rw[hs]
  have hpl:=bM (xs:=L) (off:=k*wd) (ys:=Y) (by omega)
  have hyt:List.take wd Y=Y:=List.take_of_length_le (by omega)
  unfold curS curR curC at hdr
  simp(disch:=omega) only[go_sem,seval,reduceCtorEq,hmn,h2,curC]
  (refine aB [0] [] false (of_decide_eq_true rfl) ?_ _ ?_ (hdr) ?_ ?_;(focus (simp only[go_sem,seval,reduceCtorEq];done));(focus (simp only[go_sem,seval,reduceCtorEq];done));(focus (first | rfl | (simp only[go_sem,seval,reduceCtorEq];done))))
  simp(disch:=omega) only[go_sem,seval,reduceCtorEq]
  (refine dU [3,4,5] false (nB (ca:=ls) (cb:=ds) (cc:=L) (m:=n*wd) (x:=k) (ys:=Y) rfl rfl hfl.symm hw hdl h1 (by omega) (by omega) (by omega)) (of_decide_eq_true rfl) ?_ ?_ ?_ ?_ (of_decide_eq_true rfl) ?_;(focus (simp only[go_sem,seval,reduceCtorEq,hpl,hdl,hyt];done));(focus (simp only[go_sem,seval,reduceCtorEq];done));(focus (simp only[go_sem,seval,reduceCtorEq,hpl,hdl,hyt];done));(focus (simp only[go_sem,seval,reduceCtorEq];done)))
  simp(disch:=omega) only[go_sem,seval,reduceCtorEq]
  (refine Next.drop (mkB 29 268402688) (by omega) (h1:= ?_) (h2:= ?_)<;>first | (simp only[go_sem,seval,reduceCtorEq,nz,na,n1,e1,e2,curC];first | done | rfl) | rfl | skip)
 ·obtain rfl:k=n:=by omega
  have h2:¬ (k:Int)<k:=by omega
  simp(disch:=omega) only[go_sem,seval,reduceCtorEq,hmn,h2,curC]
  (refine FnEnd.mk (nb rfl) rfl (of_decide_eq_true rfl) ?_ ?_<;>try simp only[go_sem,seval,reduceCtorEq])
theorem ra {b:List Int} (hb:CodeOk b) {c:Cur} (hi:c.i≤b.length) {xs:List Int} (hn:xs.length≤1048576):
  Does Tryz.prog 37 [.ptr 0 0,.d (ints xs)] [curS b c] (.own 1 0 xs.length) [curS b (bE b c xs xs.length).1,some ⟨1,true,iv (bE b c xs xs.length).2⟩]:=by
 (refine spec_of (by kernel_rfl) Tryz.func37 gS (fnOk (nb rfl) ?_);unfold C_spec_l06Shuffle)
 unfold curS curR curC
 (simp only[Nat.reduceSub,List.length_cons,List.length_nil,Nat.reduceAdd,am,al,aj,ai,ah,af,ae,ac];try simp only[au]);(simp only[go_sem,seval,reduceCtorEq,List.replicate])
 (refine aa (iw (xs:=xs) (by omega)) ?_ ?_ ?_;(focus (simp only[go_sem,seval,reduceCtorEq];done));(first | rfl | (focus (simp only[go_sem];done))))
 simp only[go_sem,seval,reduceCtorEq]
 have e0:(bE b c xs 0).1=c:=rfl
 have e1:(bE b c xs 0).2=xs:=rfl
 refine aZ (xs.length) (mkB 37 68719460800) (fun k=>[(13,.d (.int k))]) (fun k=>[(0,curC b (bE b c xs k).1.i (bE b c xs k).1.h),(1,iv (bE b c xs k).2)]) (h1:=by first | (simp only[go_sem,seval,reduceCtorEq,nz,na,n1,e0,e1,curC];first | done | rfl) | rfl) (h2:=by first | (simp only[go_sem,seval,reduceCtorEq,nz,na,n1,e0,e1,curC];first | done | rfl) | rfl) (hr:=fun k hk=> ?_)
 unfold L0_spec_l06Shuffle
 by_cases hlt:k<xs.length
 ·have d1:(k:Int)<xs.length:=by omega
  have hs:bE b c xs (k+1)=((aD b (k+1:Nat) (bE b c xs k).1).2,swp (bE b c xs k).2 k (aD b (k+1:Nat) (bE b c xs k).1).1.toNat):=rfl
  have hl:=iC b c xs k
  have hck:=mH hi xs k
  generalize bE b c xs k=S at hs hl hck
  obtain⟨c1,L⟩:=S
  simp only at hl hck hs
  have hr:=cF (b:=b) (n:=((k+1:Nat):Int)) (by omega) c1
  have hd:=fM hb hck (n:=((k+1:Nat):Int)) (by omega)
  generalize aD b ((k+1:Nat):Int) c1=T at hr hd hs
  obtain⟨r,c2⟩:=T
  simp only at hr hd hs
  obtain⟨q,rfl⟩:=Int.eq_ofNat_of_zero_le hr.1
  have hq:q<L.length:=by omega
  have hk:k<L.length:=by omega
  have g1:L[k]? =some L[k]:=List.getElem?_eq_getElem hk
  have g2:L[q]? =some L[q]:=List.getElem?_eq_getElem hq
  have d2:(k:Int)+1=((k+1:Nat):Int):=by omega
  have d3:(q:Int)<L.length:=by omega
  have hsw:swp L k q=(L.set k L[q]).set q L[k]:=by unfold swp;rw[ao hk,ao hq]
  have p1:=cI (xs:=L) (x:=L[q]) hk
  have p2:=cI (xs:=L.set k L[q]) (x:=L[k]) (n:=q) (by rw[List.length_set];exact hq)
  have e1:(bE b c xs (k+1)).1=c2:=by rw[hs]
  have e2:(bE b c xs (k+1)).2=(L.set k L[q]).set q L[k]:=by rw[hs];simp only[Int.toNat_natCast,hsw]
  unfold curS curR curC at hd
  simp(disch:=omega) only[go_sem,seval,reduceCtorEq,d1,curC,d2]
  (refine aB [0] [] false (of_decide_eq_true rfl) ?_ _ ?_ (hd) ?_ ?_;(focus (simp only[go_sem,seval,reduceCtorEq];done));(focus (simp only[go_sem,seval,reduceCtorEq];done));(focus (first | rfl | (simp only[go_sem,seval,reduceCtorEq];done))))
  simp(disch:=omega) only[go_sem,seval,reduceCtorEq,g1,g2,Option.map_some,p1,p2,List.length_set,hl]
  (repeat (refine And.intro (by omega) ?_))
  (refine Next.drop (mkB 37 68719460800) (by omega) (h1:= ?_) (h2:= ?_)<;>first | (simp only[go_sem,seval,reduceCtorEq,nz,na,n1,e1,e2,curC];first | done | rfl) | rfl | skip)
 ·have d1:¬ (k:Int)<xs.length:=by omega
  obtain rfl:k=xs.length:=by omega
  simp(disch:=omega) only[go_sem,seval,reduceCtorEq,d1,curC]
  (refine FnEnd.mk (nb rfl) rfl (of_decide_eq_true rfl) ?_ ?_<;>try simp only[go_sem,seval,reduceCtorEq])
theorem wu {b:List Int} {r:Rg} {wd n:Nat} {c:Cur} (hr:aq r=true) (k:Nat):fits r (bI b r wd n c k).2:=by
 induction k with
 | zero=>exact eo fun x hx=>eN (eU hr) x (lX n x hx)
 | succ k ih=>exact kA ih (qE hr)
theorem MakeLike_d {b:List Int} (hb:CodeOk b) {m:Nat} (hm:m≤1000) {kk pp nn:Int} (hr:aq ⟨kk,pp,nn⟩=true) {T:Ten} (hT:Nat6 T):
  ∃ t:Ten,(Nat6 t∧aA ⟨kk,pp,nn⟩ t.labels t.dims t.data=true∧∀ x,x∈t.labels↔x∈T.labels)∧Does Tryz.prog 9 [.d (bytes b),.d (.int m),bn kk pp nn,tenA T] [] (tenA t) []:=by
 obtain⟨i,h,hi,hd⟩:=pu hb hm
 have hwb:=cq hr
 obtain⟨wd,hw⟩:=Int.eq_ofNat_of_zero_le (a:=ar ⟨kk,pp,nn⟩) (by omega)
 have hw6:=wd6 hr hw
 have hp:=hT.prod
 obtain⟨n,hn⟩:=Int.eq_ofNat_of_zero_le (a:=ab T.dims) (by omega)
 have hT3:=hT.len
 have hdd:∀ d∈T.dims,1≤d∧d≤100:=fun d hd=>by have:=hT.ax.dim d hd;omega
 have hTd:T.dims.length=T.labels.length:=by rw[hT.dims,fp]
 have hf:=wc hb (c:=⟨i,h⟩) hi (ls:=T.labels) (ds:=T.dims) hr hw hw6 (by omega) (by omega) hdd hn (by omega)
 have hfl:=g7 (b:=b) (r:=⟨kk,pp,nn⟩) (wd:=wd) (n:=n) (c:=⟨i,h⟩) n (Nat.le_refl _)
 have hff:=wu (b:=b) (wd:=wd) (n:=n) (c:=⟨i,h⟩) hr n
 have hfo:=jY (b:=b) (r:=⟨kk,pp,nn⟩) (wd:=wd) (n:=n) (c:=⟨i,h⟩) hi n
 generalize bI b ⟨kk,pp,nn⟩ wd n ⟨i,h⟩ n=U at hf hfl hff hfo
 obtain⟨c2,D⟩:=U
 simp only at hf hfl hff hfo
 have hU:Nat6 ⟨T.labels,T.dims,D⟩:=⟨hT.dims,hT.nd,hT.bd,hT.len⟩
 have hUok:aA ⟨kk,pp,nn⟩ T.labels T.dims D=true:=hU.ok hr (by
  show (D.length:Int)=ab T.dims*ar ⟨kk,pp,nn⟩
  rw[hfl,hn,hw,Int.natCast_mul]) hff
 have hUz:=hU.sz hUok
 have hs:=ra hb hfo (xs:=T.labels) (by omega)
 have hsp:=j6 (b:=b) c2 T.labels T.labels.length (Nat.le_refl _)
 generalize bE b c2 T.labels T.labels.length=S at hs hsp
 obtain⟨c3,L⟩:=S
 simp only at hs hsp
 have hTV:=Sem.fO hw hU hUok
 obtain⟨k1,k2,k3,k4⟩:=Sem.Fh hr hw hTV hU.bd hU.len hsp
 have hLl:L.length=T.labels.length:=hsp.length_eq
 have hLz:Sz 1048576 L:=sz6 (hsp.nodup_iff.2 hT.nd) fun x hx=>hT.bd x (hsp.mem_iff.1 hx)
 have hsB:gM T.labels L=true:=Sem.lS hT.nd (hsp.nodup_iff.2 hT.nd) fun x=>hsp.mem_iff.symm
 obtain⟨wd',n',f1,f2,hP⟩:=t4 (t:=⟨T.labels,T.dims,D⟩) hUok hsB
 obtain rfl:wd=wd':=by omega
 have hpm:=th hw hP hUz hLz
 refine⟨_,⟨k1,k2,k3⟩, ?_⟩
 generalize bz wd ⟨T.labels,T.dims,D⟩ L=R at*
 refine mO (g0:=false) (g1:=false) (g2:=false) ?_
 unfold ownT
 unfold ownT stoF at hpm
 unfold curS curR curC at hf hs
 unfold curR curC at hd
 have tD:List.take (n*wd) D=D:=List.take_of_length_le (by omega)
 have tL:List.take T.labels.length L=L:=List.take_of_length_le (by omega)
 (refine spec_ofW _ (by kernel_rfl) Tryz.func9 oW (fnOk (nb rfl) ?_);unfold C_spec_MakeLike)
 (simp only[Nat.reduceSub,List.length_cons,List.length_nil,Nat.reduceAdd,am,al,aj,ai,ah,af,ae,ac];try simp only[au]);(simp only[go_sem,seval,reduceCtorEq,List.replicate])
 (refine aa (hd) ?_ ?_ ?_;(focus (simp only[go_sem,seval,reduceCtorEq];done));(first | rfl | (focus (simp only[go_sem];done))))
 simp only[go_sem,seval,reduceCtorEq]
 (refine aB [3] [] false (of_decide_eq_true rfl) ?_ _ ?_ (hf) ?_ ?_;(focus (simp only[go_sem,seval,reduceCtorEq];done));(focus (simp only[go_sem,seval,reduceCtorEq];done));(focus (first | rfl | (simp only[go_sem,seval,reduceCtorEq];done))))
 simp(disch:=omega) only[go_sem,seval,reduceCtorEq]
 (refine aB [3] [] false (of_decide_eq_true rfl) ?_ _ ?_ (hs) ?_ ?_;(focus (simp only[go_sem,seval,reduceCtorEq];done));(focus (simp only[go_sem,seval,reduceCtorEq];done));(focus (first | rfl | (simp only[go_sem,seval,reduceCtorEq];done))))
 simp(disch:=omega) only[go_sem,seval,reduceCtorEq]
 (refine aa (hpm) ?_ ?_ ?_;(focus (simp only[go_sem,seval,reduceCtorEq,tD,tL,hfl,hLl];done));(first | rfl | (focus (simp only[go_sem];done))))
 simp only[go_sem,seval,reduceCtorEq]
 (refine FnEnd.mk (nb rfl) rfl (of_decide_eq_true rfl) ?_ ?_<;>try simp only[go_sem,seval,reduceCtorEq])
set_option maxRecDepth 100000
theorem AddTensors_z {kk pp nn:Int} {t u:Ten} (a:I64 kk) (b:I64 pp) (c:I64 nn) (ht:TSz 1048576 t) (hu:TSz 1048576 u):
  Does Tryz.prog 12 [bn kk pp nn,tenA t,tenA u] [] (.tup [tenA (jt (addE ⟨kk,pp,nn⟩) ⟨kk,pp,nn⟩ t u),.d (.bool (alB ⟨kk,pp,nn⟩ t u))]) []:=iH (rA a b c ht hu)
set_option maxHeartbeats 3200000 in
theorem mj {b:List Int} (hl:b.length≤9223372036854775807) (hwf:∀ x∈b,0≤x∧x≤255):
  Does Tryz.prog 3 [.d (bytes b)] [] (.d (.bool true)) []:=by
 by_cases h0:(b.length:Int)>1048576
 ·(refine spec_of (by kernel_rfl) Tryz.func3 dt (fnOk (nb rfl) ?_);unfold C_laws_FnEnvironments)
  unfold bytes
  (simp only[Nat.reduceSub,List.length_cons,List.length_nil,Nat.reduceAdd,am,al,aj,ai,ah,af,ae,ac];try simp only[au]);(simp only[go_sem,seval,reduceCtorEq,List.replicate])
  simp(disch:=omega) only[go_sem,seval,reduceCtorEq,h0]
  (refine FnEnd.mk (nb rfl) rfl (of_decide_eq_true rfl) ?_ ?_<;>try simp only[go_sem,seval,reduceCtorEq])
 have hb:CodeOk b:=⟨by omega,hwf⟩
 obtain⟨kk,pp,nn,hr,hring⟩:=MakeRing_d hb (m:=0) (by omega)
 obtain⟨N,⟨hN,_,hrg⟩,hnet⟩:=MakeNetwork_d hb (m:=10) (by omega) hr (most:=4) (by omega)
 have hz:=hN.sz
 have hnl:=(ay.1 hN.ok).2.1
 by_cases hn0:N.ts.length=0
 ·have hno:=Environment_no hz hn0
  have c0:((N.ts.length:Int)==0)=true:=by rw[hn0];rfl
  unfold bytes at*
  (refine spec_of (by kernel_rfl) Tryz.func3 dt (fnOk (nb rfl) ?_);unfold C_laws_FnEnvironments)
  (simp only[Nat.reduceSub,List.length_cons,List.length_nil,Nat.reduceAdd,am,al,aj,ai,ah,af,ae,ac];try simp only[au]);(simp only[go_sem,seval,reduceCtorEq,List.replicate])
  simp(disch:=omega) only[go_sem,seval,reduceCtorEq,h0]
  (refine aa (hring) ?_ ?_ ?_;(focus (simp only[go_sem,seval,reduceCtorEq];done));(first | rfl | (focus (simp only[go_sem];done))))
  simp only[go_sem,seval,reduceCtorEq]
  (refine aa (hnet) ?_ ?_ ?_;(focus (simp only[go_sem,seval,reduceCtorEq];done));(first | rfl | (focus (simp only[go_sem];done))))
  simp only[go_sem,seval,reduceCtorEq,c0]
  (refine aa (hno) ?_ ?_ ?_;(focus (simp only[go_sem,seval,reduceCtorEq];done));(first | rfl | (focus (simp only[go_sem];done))))
  simp only[go_sem,seval,reduceCtorEq]
  (refine FnEnd.mk (nb rfl) rfl (of_decide_eq_true rfl) ?_ ?_<;>try simp only[go_sem,seval,reduceCtorEq])
 have c0:((N.ts.length:Int)==0)=false:=by rw[beq_eq_false_iff_ne];omega
 obtain⟨x,hx,hms⟩:=MakeSize_d hb (n:=100) (by omega) (lo:=0) (hi:=(N.ts.length:Int)-1) (by omega)
 obtain⟨k,rfl⟩:=Int.eq_ofNat_of_zero_le (a:=x) (by omega)
 have hk:k<N.ts.length:=by omega
 have hwb:=cq hr
 obtain⟨wd,hw⟩:=Int.eq_ofNat_of_zero_le (a:=ar ⟨kk,pp,nn⟩) (by omega)
 have hmem:=List.getElem_mem hk
 have h6:=hN.six _ hmem
 have hok0:=(ay.1 hN.ok).2.2.1 _ hmem
 obtain⟨t,⟨ht,hok,hlab⟩,hml⟩:=MakeLike_d hb (m:=110) (by omega) hr h6
 rw[← hrg]at hw hok
 obtain⟨e1,e2,e3,e4,e5,e6⟩:=Sem.envs hN hw hk ht hok hlab
 have htz:=ht.sz hok
 have hkz:=hz.t _ hmem
 obtain⟨i1,i2,i3⟩:=lV hr
 have hCa:=ContractReplaced_d hN hw hk ht hok hlab
 have hCb:=ContractReplaced_d hN hw hk h6 hok0 fun _=>Iff.rfl
 have hCc:=ContractReplaced_d hN hw hk e2 e3 hlab
 have hRep:=ReplaceTensor_d hN hk htz (Sem.sum6 (ay.1 hN.ok).1 hw (Sem.fO hw h6 hok0) (Sem.fO hw ht hok) h6.bd fun x=>(hlab x).symm).1
 have hM:=Sem.rep6 hN hk ht hok hlab
 have hGi:=CC hM (wd:=wd) hw
 have hWo:=BE hN hw
 have hnvz:=xf hN hw
 have hnaz:=xf hM (wd:=wd) hw
 have hM2:=Sem.rep6 hN hk e2 e3 hlab
 have hncz:=xf hM2 (wd:=wd) hw
 have hA1:=AddTensors_z i1 i2 i3 htz hkz
 have hA2:=AddTensors_z i1 i2 i3 hnaz hnvz
 rw[hrg]at e1 e4 e5 e6 hCc hncz
 rw[e1,e4]at hA1
 rw[e5,e6]at hA2
 rw[Sem.uz hk]at hCb
 have hS1:=n6 hnvz
 have hS2:=n6 hncz
 have g3:=dd (List.getElem?_eq_getElem hk)
 have c3:(k:Int)<N.ts.length:=by omega
 generalize Sem.nvR (Sem.repN N k t) wd=A at*
 generalize Sem.nvR N wd=B at*
 generalize Sem.nvR (Sem.repN N k (Sem.sumT ⟨kk,pp,nn⟩ wd t N.ts[k])) wd=C at*
 generalize Sem.sumT ⟨kk,pp,nn⟩ wd t N.ts[k]=U at*
 generalize Sem.repN N k t=M at*
 unfold bytes at*
 (refine spec_of (by kernel_rfl) Tryz.func3 dt (fnOk (nb rfl) ?_);unfold C_laws_FnEnvironments)
 (simp only[Nat.reduceSub,List.length_cons,List.length_nil,Nat.reduceAdd,am,al,aj,ai,ah,af,ae,ac];try simp only[au]);(simp only[go_sem,seval,reduceCtorEq,List.replicate])
 simp(disch:=omega) only[go_sem,seval,reduceCtorEq,h0]
 (refine aa (hring) ?_ ?_ ?_;(focus (simp only[go_sem,seval,reduceCtorEq];done));(first | rfl | (focus (simp only[go_sem];done))))
 simp only[go_sem,seval,reduceCtorEq]
 (refine aa (hnet) ?_ ?_ ?_;(focus (simp only[go_sem,seval,reduceCtorEq];done));(first | rfl | (focus (simp only[go_sem];done))))
 simp(disch:=omega) only[go_sem,seval,reduceCtorEq,c0]
 (refine aa (hms) ?_ ?_ ?_;(focus (simp only[go_sem,seval,reduceCtorEq];done));(first | rfl | (focus (simp only[go_sem];done))))
 simp(disch:=omega) only[go_sem,seval,reduceCtorEq,c3,g3]
 refine⟨by omega, ?_⟩
 (refine aC (hml) ?_ ?_ ?_;(focus (simp only[go_sem,seval,reduceCtorEq];done));(first | rfl | (focus (simp only[go_sem];done))))
 simp only[go_sem,seval,reduceCtorEq]
 (refine aa (hCa) ?_ ?_ ?_;(focus (simp only[go_sem,seval,reduceCtorEq];done));(first | rfl | (focus (simp only[go_sem];done))))
 simp only[go_sem,seval,reduceCtorEq]
 (refine aa (hRep) ?_ ?_ ?_;(focus (simp only[go_sem,seval,reduceCtorEq];done));(first | rfl | (focus (simp only[go_sem];done))))
 simp(disch:=omega) only[go_sem,seval,reduceCtorEq,c3,g3]
 refine⟨by omega, ?_⟩
 (refine aC (hCb) ?_ ?_ ?_;(focus (simp only[go_sem,seval,reduceCtorEq];done));(first | rfl | (focus (simp only[go_sem];done))))
 simp(disch:=omega) only[go_sem,seval,reduceCtorEq,c3,g3]
 refine⟨by omega, ?_⟩
 (refine aC (hA1) ?_ ?_ ?_;(focus (simp only[go_sem,seval,reduceCtorEq];done));(first | rfl | (focus (simp only[go_sem];done))))
 simp only[go_sem,seval,reduceCtorEq]
 (refine aa (hCc) ?_ ?_ ?_;(focus (simp only[go_sem,seval,reduceCtorEq];done));(first | rfl | (focus (simp only[go_sem];done))))
 simp only[go_sem,seval,reduceCtorEq]
 (refine aa (hA2) ?_ ?_ ?_;(focus (simp only[go_sem,seval,reduceCtorEq];done));(first | rfl | (focus (simp only[go_sem];done))))
 simp only[go_sem,seval,reduceCtorEq]
 (refine aC (hGi) ?_ ?_ ?_;(focus (simp only[go_sem,seval,reduceCtorEq];done));(first | rfl | (focus (simp only[go_sem];done))))
 simp only[go_sem,seval,reduceCtorEq]
 (refine aC (hWo) ?_ ?_ ?_;(focus (simp only[go_sem,seval,reduceCtorEq];done));(first | rfl | (focus (simp only[go_sem];done))))
 simp only[go_sem,seval,reduceCtorEq]
 (refine aC (hS1) ?_ ?_ ?_;(focus (simp only[go_sem,seval,reduceCtorEq];done));(first | rfl | (focus (simp only[go_sem];done))))
 simp only[go_sem,seval,reduceCtorEq]
 (refine aa (hS2) ?_ ?_ ?_;(focus (simp only[go_sem,seval,reduceCtorEq];done));(first | rfl | (focus (simp only[go_sem];done))))
 simp only[go_sem,seval,reduceCtorEq]
 (refine FnEnd.mk (nb rfl) rfl (of_decide_eq_true rfl) ?_ ?_<;>try simp only[go_sem,seval,reduceCtorEq])
theorem nw (W:World) {v0:Value} {b:List Int} (w0:BytIn W v0 b):
  Calls Tryz.prog 3 #[v0] W (RetV W (.bool true)):=by
 refine Does.calls (mj w0.len w0.wf) W [_] ?_
 simp only[RelL]
 exact⟨_,_,rfl,w0.rel,rfl⟩
end Go.Proofs.YtneocijmbnhblaaGreat
