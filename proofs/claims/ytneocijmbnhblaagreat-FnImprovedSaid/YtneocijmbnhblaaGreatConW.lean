/-
 Contracts: ContractPair, by the reference and by the program. No condition.
-/
import Derived.Test.YtneocijmbnhblaaGreatMgImprovedA
import Derived.Test.YtneocijmbnhblaaGreatConM
set_option linter.unusedSimpArgs false
set_option linter.unusedVariables false
namespace Go.Proofs.YtneocijmbnhblaaGreat
open Go.RowKit Go.Lift Plain
set_option maxRecDepth 100000
theorem uH {kk pp nn:Int} {wd n:Nat} {ls ds z:List Int} (hz:z.length=wd) (h1:1≤wd∧wd≤6) (hls:ls.length≤1048576) (hds:ds.length≤1048576) (hd:∀ d∈ds,1≤d) (hn:aa ds=n) (hn2:n≤4096):
  Does Tryz.prog 31 [bw kk pp nn,.d (ints ls),.d (ints ds),.d (ints z)] [] (ownT 0 ⟨ls,ds,repE z n⟩) (stoF ⟨ls,ds,repE z n⟩):=(uI hz h1 hls hds hd hn hn2).nog [0,1,2] rfl
def conX (r:Rg) (wd:Nat) (a b:Ten):Nat→List Int
 | 0=>List.replicate wd 0
 | i+1=>conE r wd a b i
theorem CO {r:Rg} {a b:Ten} {keep:List Int} {wd ua ub n N:Nat} (h:ConOk r a b keep wd ua ub n N):∀ i,(conX r wd a b i).length=wd
 | 0=>by simp [conX]
 | i+1=>h.el i
theorem Bs {xs ys:List Int} (h:xs.length=ys.length):putE xs 0 ys=ys:=by simp [putE,h]
set_option maxHeartbeats 2000000 in
theorem pm {kk pp nn:Int} {a b:Ten} {keep:List Int} (za:I64 kk) (zb:I64 pp) (zc:I64 nn) (ha:TSz 1048576 a) (hb:TSz 1048576 b) (hk:Sz 1048576 keep):
  Does Tryz.prog 38 [bw kk pp nn,tenA a,tenA b,.d (ints keep)] [] (.tup [ownT 0 (conT ⟨kk,pp,nn⟩ a b keep),.d (.bool (conB ⟨kk,pp,nn⟩ a b keep))]) (stoF (conT ⟨kk,pp,nn⟩ a b keep)):=by
 have hno:conB ⟨kk,pp,nn⟩ a b keep=false→conT ⟨kk,pp,nn⟩ a b keep=⟨[],[],[]⟩:=Ew
 have hkl:=hk.len
 (refine spec_of (by kernel_rfl) Tryz.func38 l3 (fnOk (nb rfl) ?_);unfold C_impl_ContractPair)
 (simp only[Nat.reduceSub,Zl,zn,Nat.reduceAdd,zF];try simp only[ae]);(simp only[go_sem,seval,reduceCtorEq,List.replicate])
 (refine zC (eK (t:=a) za zb zc ha.up) ?_)
 cases h1:aD ⟨kk,pp,nn⟩ a.labels a.dims a.data
 ·have e:conB ⟨kk,pp,nn⟩ a b keep=false:=by simp only[conB,h1,Bool.false_and]
  simp only[go_sem,seval,reduceCtorEq,h1,e,hno e]
  refine FnEnd.wk (Wk.trans (Wk.nilS 3 0 1 _ _ _ rfl rfl) (Wk.trans (Wk.nilS 3 1 1 _ _ _ rfl rfl) (Wk.trans (Wk.nilS 3 2 1 _ _ _ rfl rfl) Wk.nogA))) ?_
  (refine zE ?_ ?_<;>try simp only[go_sem,seval,reduceCtorEq])
 simp only[go_sem,seval,reduceCtorEq,h1]
 (refine zC (eK (t:=b) za zb zc hb.up) ?_)
 cases h2:aD ⟨kk,pp,nn⟩ b.labels b.dims b.data
 ·have e:conB ⟨kk,pp,nn⟩ a b keep=false:=by simp only[conB,h2,Bool.false_and,Bool.and_false]
  simp only[go_sem,seval,reduceCtorEq,h2,e,hno e]
  refine FnEnd.wk (Wk.trans (Wk.nilS 3 0 1 _ _ _ rfl rfl) (Wk.trans (Wk.nilS 3 1 1 _ _ _ rfl rfl) (Wk.trans (Wk.nilS 3 2 1 _ _ _ rfl rfl) Wk.nogA))) ?_
  (refine zE ?_ ?_<;>try simp only[go_sem,seval,reduceCtorEq])
 simp only[go_sem,seval,reduceCtorEq,h2]
 obtain⟨wa,ua,a1,a2,a3,a4,a5,a6,a7,a8,a9,a10⟩:=eH h1
 obtain⟨wb,ub,b1,b2,b3,b4,b5,b6,b7,b8,b9,b10⟩:=eH h2
 have hll:=kQ a.labels b.labels
 have l1:=a10.1
 have l2:=b10.1
 have hjd:=nV a b
 have hpj:=r6 a10 b10 (by omega) (by omega)
 cases hj:fV a b
 ·have e:conB ⟨kk,pp,nn⟩ a b keep=false:=by simp only[conB,hj,Bool.and_false,Bool.false_and]
  (refine zC (wj a10 b10 hj) ?_)
  simp only[go_sem,seval,reduceCtorEq,e,hno e]
  refine FnEnd.wk (Wk.trans (Wk.nilS 3 0 1 _ _ _ rfl rfl) (Wk.trans (Wk.nilS 3 1 1 _ _ _ rfl rfl) (Wk.trans (Wk.nilS 3 2 1 _ _ _ rfl rfl) Wk.nogA))) ?_
  (refine zE ?_ ?_<;>try simp only[go_sem,seval,reduceCtorEq])
 (refine zC (xv a10 b10 hj) ?_)
 have htj:List.take (aB a.labels b.labels).length (aC a b)=aC a b:=zt (by omega)
 simp only[go_sem,seval,reduceCtorEq]
 (refine aZ (oz (ds:=aC a b) (by omega) (fun d hd=>(mF a10 b10 d hd).1) (by omega)) ?_ ?_ ?_;(focus (simp only[go_sem,seval,reduceCtorEq,hjd,htj];done));(first | rfl | (focus (simp only[go_sem];done))))
 by_cases hp:aa (aC a b)≤65536
 rotate_left
 ·have e:conB ⟨kk,pp,nn⟩ a b keep=false:=by rw[conB,decide_eq_false hp];simp
  have c:aa (aC a b)>65536:=by omega
  simp only[go_sem,seval,reduceCtorEq,c,e,hno e]
  refine FnEnd.wk (Wk.trans (Wk.nilS 3 0 1 _ _ _ rfl rfl) (Wk.trans (Wk.nilS 3 1 1 _ _ _ rfl rfl) (Wk.trans (Wk.nilS 3 2 1 _ _ _ rfl rfl) Wk.nogA))) ?_
  (refine zE ?_ ?_<;>try simp only[go_sem,seval,reduceCtorEq])
 have c:¬ aa (aC a b)>65536:=by omega
 simp only[go_sem,seval,reduceCtorEq,c]
 (refine zC (xq (ls:=aB a.labels b.labels) (keep:=keep) (by omega) hkl) ?_)
 have hfl:(conK a b keep).length≤24:=by
  have:=eD (aB a.labels b.labels) (aB a.labels b.labels).length (has keep)
  rw[List.take_length]at this
  show ((aB a.labels b.labels).filter (has keep)).length≤24
  omega
 have hcl:(conD a b keep).length=(conK a b keep).length:=List.length_map ..
 have hnd:(conL a b).Nodup:=r5 (cn a10) (cn b10)
 rw[show (aB a.labels b.labels).filter (has keep)=conK a b keep from rfl,show aB a.labels b.labels=conL a b from rfl]
 rw[show aB a.labels b.labels=conL a b from rfl]at hll hjd htj
 simp(disch:=omega) only[go_sem,seval,reduceCtorEq]
 refine⟨by omega, ?_⟩
 refine aH ((conK a b keep).length) (mkB 141 38685623921825124377395200) (fun k=>[(60,.d (.int k))]) (fun k=>[(7,iv (mix (conD a b keep) (List.replicate (conK a b keep).length 0) k))]) (h1:=by first | (simp only[go_sem,seval,reduceCtorEq,nz,na,n1,cB];first | done | rfl) | rfl) (h2:=by first | (simp only[go_sem,seval,reduceCtorEq,nz,na,n1,cB];first | done | rfl) | rfl) (hr:=fun k hk=> ?_)
 unfold L2_impl_ContractPair
 have hmz:(conD a b keep).length=(List.replicate (conK a b keep).length (0:Int)).length:=by simp [hcl]
 by_cases hlt:k<(conK a b keep).length
 ·have d1:(k:Int)<(conK a b keep).length:=by omega
  have g:(conK a b keep)[k]? =some (conK a b keep)[k]:=zg hlt
  have hKm:(conK a b keep)[k]∈conL a b:=(List.mem_filter.1 (List.getElem_mem hlt)).1
  simp(disch:=omega) only[go_sem,seval,reduceCtorEq,d1,g]
  refine aH ((conL a b).length) (mkB 141 19342517965928887442866176) (fun q=>[(67,.d (.int q))]) (fun q=>[(7,iv (mix (conD a b keep) (List.replicate (conK a b keep).length 0) (if (conK a b keep)[k]∈(conL a b).take q then k+1 else k)))]) (h1:=by first | (simp only[go_sem,seval,reduceCtorEq,nz,na,n1,List.take_zero,List.not_mem_nil,if_false];first | done | rfl) | rfl) (h2:=by first | (simp only[go_sem,seval,reduceCtorEq,nz,na,n1,List.take_zero,List.not_mem_nil,if_false];first | done | rfl) | rfl) (hr:=fun q hq=> ?_)
  unfold L1_impl_ContractPair
  by_cases hltq:q<(conL a b).length
  ·have d2:(q:Int)<(conL a b).length:=by omega
   have d3:(q:Int)<(aC a b).length:=by omega
   have gq:(conL a b)[q]? =some (conL a b)[q]:=zg hltq
   have gd:(aC a b)[q]? =some ((aC a b).getD q 0):=by rw[ab (by omega)];exact zg (by omega)
   have hfr:=eW hnd hltq
   by_cases hx:(conL a b)[q]=(conK a b keep)[k]
   ·have hxe:((conL a b)[q]==(conK a b keep)[k])=true:=by simp [hx]
    have e0:¬ (conK a b keep)[k]∈(conL a b).take q:=by rw[← hx];exact hfr
    have e1:(conK a b keep)[k]∈(conL a b).take (q+1):=by rw[bi hltq];exact List.mem_append_right _ (by rw[hx];exact List.mem_singleton_self _)
    have hml:=i0 (k:=k) hmz
    have hmn:=fQ (k:=k) hmz (show (conD a b keep)[k]? =some ((aC a b).getD q 0)by
     rw[← xN hnd hltq,hx,conD,List.getElem?_map,g];rfl)
    simp(disch:=omega) only[go_sem,seval,reduceCtorEq,d2,gq,hxe,d1,d3,gd,e0]
    refine⟨by omega, ?_⟩
    (refine Next.drop (mkB 141 19342517965928887442866176) (by omega) (h1:= ?_) (h2:= ?_)<;>first | (simp only[go_sem,seval,reduceCtorEq,nz,na,n1,hmn,e1];first | done | rfl) | rfl | skip)
   ·have hxe:((conL a b)[q]==(conK a b keep)[k])=false:=by simp [hx]
    have e1:((conK a b keep)[k]∈(conL a b).take (q+1))=((conK a b keep)[k]∈(conL a b).take q):=by
     rw[bi hltq,List.mem_append,List.mem_singleton,eq_iff_iff]
     exact⟨fun h=>h.resolve_right (fun e=>hx e.symm),.inl⟩
    simp(disch:=omega) only[go_sem,seval,reduceCtorEq,d2,gq,hxe]
    (refine Next.drop (mkB 141 19342517965928887442866176) (by omega) (h1:= ?_) (h2:= ?_)<;>first | (simp only[go_sem,seval,reduceCtorEq,nz,na,n1,e1];first | done | rfl) | rfl | skip)
  ·have d2:¬ (q:Int)<(conL a b).length:=by omega
   have htq:List.take q (conL a b)=conL a b:=zt (by omega)
   simp(disch:=omega) only[go_sem,seval,reduceCtorEq,d2,htq,hKm]
   (refine Next.drop (mkB 141 38685623921825124377395200) (by omega) (h1:= ?_) (h2:= ?_)<;>first | (simp only[go_sem,seval,reduceCtorEq,nz,na,n1];first | done | rfl) | rfl | skip)
 ·have d1:¬ (k:Int)<(conK a b keep).length:=by omega
  have hf:mix (conD a b keep) (List.replicate (conK a b keep).length 0) k=conD a b keep:=gE (by simp;omega) (by omega)
  have htk:List.take (conK a b keep).length (conD a b keep)=conD a b keep:=zt (by omega)
  simp(disch:=omega) only[go_sem,seval,reduceCtorEq,d1,hf]
  (refine aZ (ir (t:=⟨conK a b keep,conD a b keep,[]⟩) (CS (keep:=keep) a10 b10 ha hb Fn).up) ?_ ?_ ?_;(focus (simp only[go_sem,seval,reduceCtorEq,hcl,htk,He];done));(first | rfl | (focus (simp only[go_sem];done))))
  rcases di (conK a b keep) (conD a b keep)with hs | ⟨s1,s2,s3,s4⟩
  ·have e:conB ⟨kk,pp,nn⟩ a b keep=false:=by rw[conB,hs];simp
   simp only[go_sem,seval,reduceCtorEq,hs,e,hno e]
   refine FnEnd.wk (Wk.trans (Wk.nilS 3 0 1 _ _ _ rfl rfl) (Wk.trans (Wk.nilS 3 1 1 _ _ _ rfl rfl) (Wk.trans (Wk.nilS 3 2 1 _ _ _ rfl rfl) Wk.nogA))) ?_
   (refine zE ?_ ?_<;>try simp only[go_sem,seval,reduceCtorEq])
  have e:conB ⟨kk,pp,nn⟩ a b keep=true:=by
   simp only[conB,hj,h1,h2,hp,Bool.true_and,decide_true]
   exact decide_eq_true (by omega)
  have c3:(aX (conK a b keep) (conD a b keep)== -1)=false:=by rw[s3];simp;omega
  obtain⟨wd,na',nb',n,N,h⟩:=CR e
  have hwb:=h.wb
  have hpn:=h.io.pn
  have hn1:=h.io.n1
  have hpN:=h.pN
  have hN1:=h.N1
  simp only[go_sem,seval,reduceCtorEq,c3]
  (refine zD (zy (kk:=kk) (pp:=pp) (nn:=nn) h.w hwb) ?_)
  have hzt:List.take wd (az kk pp wd)=az kk pp wd:=zt (by rw[bQ];omega)
  simp only[go_sem,seval,reduceCtorEq]
  (refine aZ (uH (kk:=kk) (pp:=pp) (nn:=nn) (ls:=conK a b keep) (ds:=conD a b keep) (bQ kk pp wd) hwb (by omega) (by omega) (fun d hd=>(s1.dim d hd).1) hpn hn1.2) ?_ ?_ ?_;(focus (simp only[go_sem,seval,reduceCtorEq,hcl,htk,bQ,hzt];done));(first | rfl | (focus (simp only[go_sem];done))))
  simp only[go_sem,seval,reduceCtorEq]
  (refine zD (gY (t:=a) (L:=conL a b) a10 (by omega) (by omega)) ?_)
  simp only[go_sem,seval,reduceCtorEq]
  (refine zD (gY (t:=b) (L:=conL a b) b10 (by omega) (by omega)) ?_)
  simp only[go_sem,seval,reduceCtorEq]
  have hzl:=h.zl
  rw[show (Rg.mk kk pp nn).k=kk from rfl,show (Rg.mk kk pp nn).p=pp from rfl]at hzl
  have htz:List.take (n*wd) (repE (az kk pp wd) n)=repE (az kk pp wd) n:=zt (by omega)
  (refine aZ (gY (t:=⟨conK a b keep,conD a b keep,repE (az kk pp wd) n⟩) (L:=conL a b) h.io.ax (by show aa (conD a b keep)≤4096;omega) (by omega)) ?_ ?_ ?_;(focus (simp only[go_sem,seval,reduceCtorEq,hcl,htk,hzl,htz];done));(first | rfl | (focus (simp only[go_sem];done))))
  simp(disch:=omega) only[go_sem,seval,reduceCtorEq]
  refine⟨by omega, ?_⟩
  have hw:=h.w
  (refine aZ (ff kk pp nn) ?_ ?_ ?_;(focus (simp only[go_sem,seval,reduceCtorEq,hw];done));(first | rfl | (focus (simp only[go_sem];done))))
  simp(disch:=omega) only[go_sem,seval,reduceCtorEq,hw]
  refine⟨⟨by omega,by omega⟩, ?_⟩
  have hd0:List.replicate (conL a b).length 0=ac (aC a b) 0:=by rw[Ar,hjd]
  have hc0:eY ⟨kk,pp,nn⟩ wd a b keep (repE (az kk pp wd) n) 0=repE (az kk pp wd) n:=rfl
  have hx0:List.replicate wd 0=conX ⟨kk,pp,nn⟩ wd a b 0:=rfl
  have hdb:∀ d∈aC a b,1≤d∧d≤1000:=fun d hd=>by have:=h.ia.dbd d hd;omega
  simp only[hd0,hx0]
  refine pq (0) (fun i=>N-i) (mkB 141 2787593144624031034157137155550548859027968) (fun i=>i<N) (fun i=>[]) (fun i=>[(12,iv (eY ⟨kk,pp,nn⟩ wd a b keep (repE (az kk pp wd) n) i)),(16,iv (ac (aC a b) (i:Int))),(17,iv (conX ⟨kk,pp,nn⟩ wd a b i))]) (hi:=by omega) (h1:=by first | (simp only[go_sem,seval,reduceCtorEq,nz,na,n1,hc0,hd0,hx0];first | done | rfl) | rfl) (h2:=by first | (simp only[go_sem,seval,reduceCtorEq,nz,na,n1,hc0,hd0,hx0];first | done | rfl) | rfl) (hr:=fun i hi=> ?_)
  unfold L0_impl_ContractPair
  obtain⟨htl,htf⟩:=rr h h.zl h.zf i
  rw[show (Rg.mk kk pp nn).k=kk from rfl,show (Rg.mk kk pp nn).p=pp from rfl]at htl htf
  have hxl:=CO h i
  have hdl:=bj (aC a b) i
  have hdl1:=bj (aC a b) (i+1)
  have hsa:(List.map (aj a.labels a.dims) (conL a b)).length=(conL a b).length:=List.length_map ..
  have hsb:(List.map (aj b.labels b.dims) (conL a b)).length=(conL a b).length:=List.length_map ..
  have hso:(List.map (aj (conK a b keep) (conD a b keep)) (conL a b)).length=(conL a b).length:=List.length_map ..
  have ta:List.take (conL a b).length (List.map (aj a.labels a.dims) (conL a b))=List.map (aj a.labels a.dims) (conL a b):=zt (by omega)
  have tb:List.take (conL a b).length (List.map (aj b.labels b.dims) (conL a b))=List.map (aj b.labels b.dims) (conL a b):=zt (by omega)
  have tO:List.take (conL a b).length (List.map (aj (conK a b keep) (conD a b keep)) (conL a b))=List.map (aj (conK a b keep) (conD a b keep)) (conL a b):=zt (by omega)
  have tx:List.take (conL a b).length (ac (aC a b) i)=ac (aC a b) i:=zt (by omega)
  obtain⟨oa,oa'⟩:=h.ia.off i
  obtain⟨ob,ob'⟩:=h.ib.off i
  obtain⟨oo,oo'⟩:=h.io.off i
  have hna:=h.ia.n1
  have hnb:=h.ib.n1
  have ca:=h.ia.cut h.la i
  have cb:=h.ib.cut h.lb i
  have co:=h.io.cut htl i
  have hnw:n*wd≤4096*6:=Nat.mul_le_mul hn1.2 hwb.2
  have hxa:=ha.x.len
  have hxb:=hb.x.len
  have hnx:eY ⟨kk,pp,nn⟩ wd a b keep (repE (az kk pp wd) n) (i+1)=putE (eY ⟨kk,pp,nn⟩ wd a b keep (repE (az kk pp wd) n) i) (bK (conK a b keep) (conD a b keep) (conL a b) (aC a b) i*wd) (addE ⟨kk,pp,nn⟩ (((eY ⟨kk,pp,nn⟩ wd a b keep (repE (az kk pp wd) n) i).drop (bK (conK a b keep) (conD a b keep) (conL a b) (aC a b) i*wd)).take wd) (conE ⟨kk,pp,nn⟩ wd a b i)):=rfl
  have hnX:conX ⟨kk,pp,nn⟩ wd a b (i+1)=conE ⟨kk,pp,nn⟩ wd a b i:=rfl
  obtain⟨hnl,_⟩:=rr h h.zl h.zf (i+1)
  rw[show (Rg.mk kk pp nn).k=kk from rfl,show (Rg.mk kk pp nn).p=pp from rfl]at hnl
  have hfin:=Ey h
  have hel:=h.el i
  have hef:=h.ef i
  have hmE:mulE ⟨kk,pp,nn⟩ ((a.data.drop (bK a.labels a.dims (conL a b) (aC a b) i*wd)).take wd) ((b.data.drop (bK b.labels b.dims (conL a b) (aC a b) i*wd)).take wd)=conE ⟨kk,pp,nn⟩ wd a b i:=rfl
  generalize eY ⟨kk,pp,nn⟩ wd a b keep (repE (az kk pp wd) n) i=X at*
  generalize conX ⟨kk,pp,nn⟩ wd a b i=Z at*
  generalize conE ⟨kk,pp,nn⟩ wd a b i=E at*
  have hpE:putE Z 0 E=E:=Bs (by omega)
  have htt:List.take (n*wd) X=X:=zt (by omega)
  have tE:List.take wd E=E:=zt (by omega)
  have tZ:List.take wd Z=Z:=zt (by omega)
  have la1:=fE ca
  have lb1:=fE cb
  have lo1:=fE co
  have had:=gU (r:=⟨kk,pp,nn⟩) lo1 hel
  have hpl:=c9 (xs:=X) (off:=bK (conK a b keep) (conD a b keep) (conL a b) (aC a b) i*wd) (ys:=addE ⟨kk,pp,nn⟩ ((X.drop (bK (conK a b keep) (conD a b keep) (conL a b) (aC a b) i*wd)).take wd) E) (by omega)
  simp only[go_sem,seval,reduceCtorEq]
  (refine bZ (pM (a:=List.map (aj a.labels a.dims) (conL a b)) (b:=ac (aC a b) i) (by omega) (by omega) (fun q _=>h.ia.dotb i q)) ?_ ?_ ?_;(focus (simp only[go_sem,seval,reduceCtorEq,ta,tx,hsa,hdl,hjd];done));(first | rfl | (focus (simp only[go_sem];done))))
  simp only[go_sem,seval,reduceCtorEq,oa]
  (refine zD (nh (t:=a) (x:=bK a.labels a.dims (conL a b) (aC a b) i) hw (by omega) ca (by omega) (by omega)) ?_)
  simp only[go_sem,seval,reduceCtorEq]
  (refine bZ (pM (a:=List.map (aj b.labels b.dims) (conL a b)) (b:=ac (aC a b) i) (by omega) (by omega) (fun q _=>h.ib.dotb i q)) ?_ ?_ ?_;(focus (simp only[go_sem,seval,reduceCtorEq,tb,tx,hsb,hdl,hjd];done));(first | rfl | (focus (simp only[go_sem];done))))
  simp only[go_sem,seval,reduceCtorEq,ob]
  (refine zD (nh (t:=b) (x:=bK b.labels b.dims (conL a b) (aC a b) i) hw (by omega) cb (by omega) (by omega)) ?_)
  simp only[go_sem,seval,reduceCtorEq]
  (refine fG [17] false (zP h.ring hw (gP h.fa _ _) (gP h.fb _ _) la1 lb1 (xs:=Z) (off:=0) (by omega) (by omega)) (zd rfl) ?_ ?_ ?_ ?_ (zd rfl) ?_;(focus (simp only[go_sem,seval,reduceCtorEq,hmE,hpE,hxl,hel,la1,lb1,List.take_take,Nat.min_self];done));(focus (simp only[go_sem,seval,reduceCtorEq];done));(focus (simp only[go_sem,seval,reduceCtorEq,hmE,hpE,hxl,hel,la1,lb1,List.take_take,Nat.min_self];done));(focus (simp only[go_sem,seval,reduceCtorEq];done)))
  simp only[go_sem,seval,reduceCtorEq,hmE,hpE]
  (refine bZ (pM (a:=List.map (aj (conK a b keep) (conD a b keep)) (conL a b)) (b:=ac (aC a b) i) (by omega) (by omega) (fun q _=>h.io.dotb i q)) ?_ ?_ ?_;(focus (simp only[go_sem,seval,reduceCtorEq,tO,tx,hso,hdl,hjd];done));(first | rfl | (focus (simp only[go_sem];done))))
  simp only[go_sem,seval,reduceCtorEq,oo]
  (refine Ch [10,11,12] (xa (kk:=kk) (pp:=pp) (nn:=nn) (ca:=conK a b keep) (cb:=conD a b keep) (cc:=X) (l:=(conK a b keep).length) (d:=(conD a b keep).length) (x:=bK (conK a b keep) (conD a b keep) (conL a b) (aC a b) i) hw hwb (m:=(repE (az kk pp wd) n).length) (by omega) (by omega) (by omega)) (zd rfl) ?_ ?_ ?_ ?_ ?_ ?_;(simp only[go_sem,seval,reduceCtorEq]);(first | rfl | simp only[go_sem,seval,reduceCtorEq]);(simp only[go_sem,seval,reduceCtorEq,vwOk]);(simp only[go_sem,seval,reduceCtorEq,idsL,idsA,List.contains_cons,Nat.reduceBEq,Bool.or_true,Bool.true_or]);(first | rfl | simp only[go_sem,seval,reduceCtorEq]))
  simp only[go_sem,seval,reduceCtorEq]
  (refine fG [12] false (AC h.ring hw (xs:=X) (y:=E) (off:=bK (conK a b keep) (conD a b keep) (conL a b) (aC a b) i*wd) (gP htf _ _) hef hel (by omega) (by omega)) (zd rfl) ?_ ?_ ?_ ?_ (zd rfl) ?_;(focus (simp only[go_sem,seval,reduceCtorEq,hpl,hel,tE];done));(focus (simp only[go_sem,seval,reduceCtorEq];done));(focus (simp only[go_sem,seval,reduceCtorEq,hpl,hel,tE];done));(focus (simp only[go_sem,seval,reduceCtorEq];done)))
  simp only[go_sem,seval,reduceCtorEq]
  have htD:List.take (conL a b).length (aC a b)=aC a b:=zt (by omega)
  (refine fG [16] false (oH (ds:=aC a b) (n:=i) hdb (by omega) (by omega)) (zd rfl) ?_ ?_ ?_ ?_ (zd rfl) ?_;(focus (simp only[go_sem,seval,reduceCtorEq,hjd,htD,hdl,hdl1];done));(focus (simp only[go_sem,seval,reduceCtorEq];done));(focus (simp only[go_sem,seval,reduceCtorEq,hjd,htD,hdl,hdl1];done));(focus (simp only[go_sem,seval,reduceCtorEq];done)))
  by_cases hlast:i+1<N
  ·have hde:decide (((i:Int)+1) % aa (aC a b)≠0)=true:=by
    rw[hpN,Int.emod_eq_of_lt (by omega) (by omega)]
    exact decide_eq_true (by omega)
   simp(disch:=omega) only[go_sem,seval,reduceCtorEq,hde]
   (refine NextS.drop (mkB 141 2787593144624031034157137155550548859027968) (i+1) (by omega) (by omega) (h1:= ?_) (h2:= ?_)<;>first | (simp only[go_sem,seval,reduceCtorEq,nz,na,n1,hnx,hnX];first | done | rfl) | rfl | skip)
  ·have hN:N=i+1:=by omega
   have hde:decide (((i:Int)+1) % aa (aC a b)≠0)=false:=by
    have:(i:Int)+1=N:=by omega
    rw[hpN,this,Int.emod_self]
    rfl
   rw[hN,hnx]at hfin
   rw[hnx]at hnl
   simp(disch:=omega) only[go_sem,seval,reduceCtorEq,hde,CP e h,hfin,e]
   refine FnEnd.wk Wk.nogA ?_
   (refine zE ?_ ?_<;>try simp only[go_sem,seval,reduceCtorEq])
   all_goals rw[hzl,hnl]
end Go.Proofs.YtneocijmbnhblaaGreat
