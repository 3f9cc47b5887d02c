/-
 Contracts: ContractPair, by the reference and by the program. No condition.
-/
import Derived.Test.YtjfmckhbmdjnpaaGreatMgDecompositionsA
import Derived.Test.YtjfmckhbmdjnpaaGreatConM
set_option linter.unusedSimpArgs false
set_option linter.unusedVariables false
namespace Go.Proofs.YtjfmckhbmdjnpaaGreat
open Go.RowKit Go.Lift Plain
set_option maxRecDepth 100000
theorem xE {kk pp nn:Int} {wd n:Nat} {ls ds z:List Int} (hz:z.length=wd) (h1:1≤wd∧wd≤6) (hls:ls.length≤1048576) (hds:ds.length≤1048576) (hd:∀ d∈ds,1≤d) (hn:aa ds=n) (hn2:n≤4096):
  Does Tryz.prog 76 [bm kk pp nn,.d (ints ls),.d (ints ds),.d (ints z)] [] (ownT 0 ⟨ls,ds,repE z n⟩) (stoF ⟨ls,ds,repE z n⟩):=(xF hz h1 hls hds hd hn hn2).nog [0,1,2] rfl
def conX (r:Rg) (wd:Nat) (a b:Ten):Nat→List Int
 | 0=>List.replicate wd 0
 | i+1=>conE r wd a b i
theorem Fn {r:Rg} {a b:Ten} {keep:List Int} {wd ua ub n N:Nat} (h:ConOk r a b keep wd ua ub n N):∀ i,(conX r wd a b i).length=wd
 | 0=>by simp [conX]
 | i+1=>h.el i
theorem Eb {xs ys:List Int} (h:xs.length=ys.length):putE xs 0 ys=ys:=by simp [putE,h]
set_option maxHeartbeats 2000000 in
theorem sS {kk pp nn:Int} {a b:Ten} {keep:List Int} (za:I64 kk) (zb:I64 pp) (zc:I64 nn) (ha:TSz 1048576 a) (hb:TSz 1048576 b) (hk:Sz 1048576 keep):
  Does Tryz.prog 32 [bm kk pp nn,tenA a,tenA b,.d (ints keep)] [] (.tup [ownT 0 (conT ⟨kk,pp,nn⟩ a b keep),.d (.bool (conB ⟨kk,pp,nn⟩ a b keep))]) (stoF (conT ⟨kk,pp,nn⟩ a b keep)):=by
 have hno:conB ⟨kk,pp,nn⟩ a b keep=false→conT ⟨kk,pp,nn⟩ a b keep=⟨[],[],[]⟩:=Hm
 have hkl:=hk.len
 (refine spec_of (by kernel_rfl) Tryz.func32 oG (fnOk (nb rfl) ?_);unfold gc)
 (simp only[Nat.reduceSub,Zl,zn,Nat.reduceAdd,zF];try simp only[af]);(simp only[go_sem,seval,reduceCtorEq,List.replicate])
 (refine zC (eg (t:=a) za zb zc ha.up) ?_)
 cases h1:aD ⟨kk,pp,nn⟩ a.labels a.dims a.data
 ·have e:conB ⟨kk,pp,nn⟩ a b keep=false:=by simp only[conB,h1,Bool.false_and]
  simp only[go_sem,seval,reduceCtorEq,h1,e,hno e]
  refine FnEnd.wk (Wk.trans (Wk.nilS 3 0 1 _ _ _ rfl rfl) (Wk.trans (Wk.nilS 3 1 1 _ _ _ rfl rfl) (Wk.trans (Wk.nilS 3 2 1 _ _ _ rfl rfl) Wk.nogA))) ?_
  (refine zE ?_ ?_<;>try simp only[go_sem,seval,reduceCtorEq])
 simp only[go_sem,seval,reduceCtorEq,h1]
 (refine zC (eg (t:=b) za zb zc hb.up) ?_)
 cases h2:aD ⟨kk,pp,nn⟩ b.labels b.dims b.data
 ·have e:conB ⟨kk,pp,nn⟩ a b keep=false:=by simp only[conB,h2,Bool.false_and,Bool.and_false]
  simp only[go_sem,seval,reduceCtorEq,h2,e,hno e]
  refine FnEnd.wk (Wk.trans (Wk.nilS 3 0 1 _ _ _ rfl rfl) (Wk.trans (Wk.nilS 3 1 1 _ _ _ rfl rfl) (Wk.trans (Wk.nilS 3 2 1 _ _ _ rfl rfl) Wk.nogA))) ?_
  (refine zE ?_ ?_<;>try simp only[go_sem,seval,reduceCtorEq])
 simp only[go_sem,seval,reduceCtorEq,h2]
 obtain⟨wa,ua,a1,a2,a3,a4,a5,a6,a7,a8,a9,a10⟩:=dX h1
 obtain⟨wb,ub,b1,b2,b3,b4,b5,b6,b7,b8,b9,b10⟩:=dX h2
 have hll:=oq a.labels b.labels
 have l1:=a10.1
 have l2:=b10.1
 have hjd:=rC a b
 have hpj:=uI a10 b10 (by omega) (by omega)
 cases hj:fV a b
 ·have e:conB ⟨kk,pp,nn⟩ a b keep=false:=by simp only[conB,hj,Bool.and_false,Bool.false_and]
  (refine zC (z2 a10 b10 hj) ?_)
  simp only[go_sem,seval,reduceCtorEq,e,hno e]
  refine FnEnd.wk (Wk.trans (Wk.nilS 3 0 1 _ _ _ rfl rfl) (Wk.trans (Wk.nilS 3 1 1 _ _ _ rfl rfl) (Wk.trans (Wk.nilS 3 2 1 _ _ _ rfl rfl) Wk.nogA))) ?_
  (refine zE ?_ ?_<;>try simp only[go_sem,seval,reduceCtorEq])
 (refine zC (Ar a10 b10 hj) ?_)
 have htj:List.take (au a.labels b.labels).length (aE a b)=aE a b:=zt (by omega)
 simp only[go_sem,seval,reduceCtorEq]
 (refine aV (sb (ds:=aE a b) (by omega) (fun d hd=>(qy a10 b10 d hd).1) (by omega)) ?_ ?_ ?_;(focus (simp only[go_sem,seval,reduceCtorEq,hjd,htj];done));(first | rfl | (focus (simp only[go_sem];done))))
 by_cases hp:aa (aE a b)≤65536
 rotate_left
 ·have e:conB ⟨kk,pp,nn⟩ a b keep=false:=by rw[conB,decide_eq_false hp];simp
  have c:aa (aE a b)>65536:=by omega
  simp only[go_sem,seval,reduceCtorEq,c,e,hno e]
  refine FnEnd.wk (Wk.trans (Wk.nilS 3 0 1 _ _ _ rfl rfl) (Wk.trans (Wk.nilS 3 1 1 _ _ _ rfl rfl) (Wk.trans (Wk.nilS 3 2 1 _ _ _ rfl rfl) Wk.nogA))) ?_
  (refine zE ?_ ?_<;>try simp only[go_sem,seval,reduceCtorEq])
 have c:¬ aa (aE a b)>65536:=by omega
 simp only[go_sem,seval,reduceCtorEq,c]
 (refine zC (Ao (ls:=au a.labels b.labels) (keep:=keep) (by omega) hkl) ?_)
 have hfl:(conK a b keep).length≤24:=by
  have:=gZ (au a.labels b.labels) (au a.labels b.labels).length (has keep)
  rw[List.take_length]at this
  show ((au a.labels b.labels).filter (has keep)).length≤24
  omega
 have hcl:(conD a b keep).length=(conK a b keep).length:=List.length_map ..
 have hnd:(conL a b).Nodup:=uH (bX a10) (bX b10)
 rw[show (au a.labels b.labels).filter (has keep)=conK a b keep from rfl,show au a.labels b.labels=conL a b from rfl]
 rw[show au a.labels b.labels=conL a b from rfl]at hll hjd htj
 simp(disch:=omega) only[go_sem,seval,reduceCtorEq]
 refine⟨by omega, ?_⟩
 refine aN ((conK a b keep).length) (mkB 141 38685623921825124377395200) (fun k=>[(60,.d (.int k))]) (fun k=>[(7,iv (mix (conD a b keep) (List.replicate (conK a b keep).length 0) k))]) (h1:=by first | (simp only[go_sem,seval,reduceCtorEq,nz,na,n1,cl];first | done | rfl) | rfl) (h2:=by first | (simp only[go_sem,seval,reduceCtorEq,nz,na,n1,cl];first | done | rfl) | rfl) (hr:=fun k hk=> ?_)
 unfold fL
 have hmz:(conD a b keep).length=(List.replicate (conK a b keep).length (0:Int)).length:=by simp [hcl]
 by_cases hlt:k<(conK a b keep).length
 ·have d1:(k:Int)<(conK a b keep).length:=by omega
  have g:(conK a b keep)[k]? =some (conK a b keep)[k]:=zg hlt
  have hKm:(conK a b keep)[k]∈conL a b:=(List.mem_filter.1 (List.getElem_mem hlt)).1
  simp(disch:=omega) only[go_sem,seval,reduceCtorEq,d1,g]
  refine aN ((conL a b).length) (mkB 141 19342517965928887442866176) (fun q=>[(67,.d (.int q))]) (fun q=>[(7,iv (mix (conD a b keep) (List.replicate (conK a b keep).length 0) (if (conK a b keep)[k]∈(conL a b).take q then k+1 else k)))]) (h1:=by first | (simp only[go_sem,seval,reduceCtorEq,nz,na,n1,List.take_zero,List.not_mem_nil,if_false];first | done | rfl) | rfl) (h2:=by first | (simp only[go_sem,seval,reduceCtorEq,nz,na,n1,List.take_zero,List.not_mem_nil,if_false];first | done | rfl) | rfl) (hr:=fun q hq=> ?_)
  unfold fN
  by_cases hltq:q<(conL a b).length
  ·have d2:(q:Int)<(conL a b).length:=by omega
   have d3:(q:Int)<(aE a b).length:=by omega
   have gq:(conL a b)[q]? =some (conL a b)[q]:=zg hltq
   have gd:(aE a b)[q]? =some ((aE a b).getD q 0):=by rw[ab (by omega)];exact zg (by omega)
   have hfr:=gU hnd hltq
   by_cases hx:(conL a b)[q]=(conK a b keep)[k]
   ·have hxe:((conL a b)[q]==(conK a b keep)[k])=true:=by simp [hx]
    have e0:¬ (conK a b keep)[k]∈(conL a b).take q:=by rw[← hx];exact hfr
    have e1:(conK a b keep)[k]∈(conL a b).take (q+1):=by rw[bb hltq];exact List.mem_append_right _ (by rw[hx];exact List.mem_singleton_self _)
    have hml:=iY (k:=k) hmz
    have hmn:=fG (k:=k) hmz (show (conD a b keep)[k]? =some ((aE a b).getD q 0)by
     rw[← AM hnd hltq,hx,conD,List.getElem?_map,g];rfl)
    simp(disch:=omega) only[go_sem,seval,reduceCtorEq,d2,gq,hxe,d1,d3,gd,e0]
    refine⟨by omega, ?_⟩
    (refine Next.drop (mkB 141 19342517965928887442866176) (by omega) (h1:= ?_) (h2:= ?_)<;>first | (simp only[go_sem,seval,reduceCtorEq,nz,na,n1,hmn,e1];first | done | rfl) | rfl | skip)
   ·have hxe:((conL a b)[q]==(conK a b keep)[k])=false:=by simp [hx]
    have e1:((conK a b keep)[k]∈(conL a b).take (q+1))=((conK a b keep)[k]∈(conL a b).take q):=by
     rw[bb hltq,List.mem_append,List.mem_singleton,eq_iff_iff]
     exact⟨fun h=>h.resolve_right (fun e=>hx e.symm),.inl⟩
    simp(disch:=omega) only[go_sem,seval,reduceCtorEq,d2,gq,hxe]
    (refine Next.drop (mkB 141 19342517965928887442866176) (by omega) (h1:= ?_) (h2:= ?_)<;>first | (simp only[go_sem,seval,reduceCtorEq,nz,na,n1,e1];first | done | rfl) | rfl | skip)
  ·have d2:¬ (q:Int)<(conL a b).length:=by omega
   have htq:List.take q (conL a b)=conL a b:=zt (by omega)
   simp(disch:=omega) only[go_sem,seval,reduceCtorEq,d2,htq,hKm]
   (refine Next.drop (mkB 141 38685623921825124377395200) (by omega) (h1:= ?_) (h2:= ?_)<;>first | (simp only[go_sem,seval,reduceCtorEq,nz,na,n1];first | done | rfl) | rfl | skip)
 ·have d1:¬ (k:Int)<(conK a b keep).length:=by omega
  have hf:mix (conD a b keep) (List.replicate (conK a b keep).length 0) k=conD a b keep:=gQ (by simp;omega) (by omega)
  have htk:List.take (conK a b keep).length (conD a b keep)=conD a b keep:=zt (by omega)
  simp(disch:=omega) only[go_sem,seval,reduceCtorEq,d1,hf]
  (refine aV (ko (t:=⟨conK a b keep,conD a b keep,[]⟩) (Fr (keep:=keep) a10 b10 ha hb If).up) ?_ ?_ ?_;(focus (simp only[go_sem,seval,reduceCtorEq,hcl,htk,Ko];done));(first | rfl | (focus (simp only[go_sem];done))))
  rcases cQ (conK a b keep) (conD a b keep)with hs | ⟨s1,s2,s3,s4⟩
  ·have e:conB ⟨kk,pp,nn⟩ a b keep=false:=by rw[conB,hs];simp
   simp only[go_sem,seval,reduceCtorEq,hs,e,hno e]
   refine FnEnd.wk (Wk.trans (Wk.nilS 3 0 1 _ _ _ rfl rfl) (Wk.trans (Wk.nilS 3 1 1 _ _ _ rfl rfl) (Wk.trans (Wk.nilS 3 2 1 _ _ _ rfl rfl) Wk.nogA))) ?_
   (refine zE ?_ ?_<;>try simp only[go_sem,seval,reduceCtorEq])
  have e:conB ⟨kk,pp,nn⟩ a b keep=true:=by
   simp only[conB,hj,h1,h2,hp,Bool.true_and,decide_true]
   exact decide_eq_true (by omega)
  have c3:(aU (conK a b keep) (conD a b keep)== -1)=false:=by rw[s3];simp;omega
  obtain⟨wd,na',nb',n,N,h⟩:=Fq e
  have hwb:=h.wb
  have hpn:=h.io.pn
  have hn1:=h.io.n1
  have hpN:=h.pN
  have hN1:=h.N1
  simp only[go_sem,seval,reduceCtorEq,c3]
  (refine zD (C7 (kk:=kk) (pp:=pp) (nn:=nn) h.w hwb) ?_)
  have hzt:List.take wd (aA kk pp wd)=aA kk pp wd:=zt (by rw[bI];omega)
  simp only[go_sem,seval,reduceCtorEq]
  (refine aV (xE (kk:=kk) (pp:=pp) (nn:=nn) (ls:=conK a b keep) (ds:=conD a b keep) (bI kk pp wd) hwb (by omega) (by omega) (fun d hd=>(s1.dim d hd).1) hpn hn1.2) ?_ ?_ ?_;(focus (simp only[go_sem,seval,reduceCtorEq,hcl,htk,bI,hzt];done));(first | rfl | (focus (simp only[go_sem];done))))
  simp only[go_sem,seval,reduceCtorEq]
  (refine zD (iz (t:=a) (L:=conL a b) a10 (by omega) (by omega)) ?_)
  simp only[go_sem,seval,reduceCtorEq]
  (refine zD (iz (t:=b) (L:=conL a b) b10 (by omega) (by omega)) ?_)
  simp only[go_sem,seval,reduceCtorEq]
  have hzl:=h.zl
  rw[show (Rg.mk kk pp nn).k=kk from rfl,show (Rg.mk kk pp nn).p=pp from rfl]at hzl
  have htz:List.take (n*wd) (repE (aA kk pp wd) n)=repE (aA kk pp wd) n:=zt (by omega)
  (refine aV (iz (t:=⟨conK a b keep,conD a b keep,repE (aA kk pp wd) n⟩) (L:=conL a b) h.io.ax (by show aa (conD a b keep)≤4096;omega) (by omega)) ?_ ?_ ?_;(focus (simp only[go_sem,seval,reduceCtorEq,hcl,htk,hzl,htz];done));(first | rfl | (focus (simp only[go_sem];done))))
  simp(disch:=omega) only[go_sem,seval,reduceCtorEq]
  refine⟨by omega, ?_⟩
  have hw:=h.w
  (refine aV (eX kk pp nn) ?_ ?_ ?_;(focus (simp only[go_sem,seval,reduceCtorEq,hw];done));(first | rfl | (focus (simp only[go_sem];done))))
  simp(disch:=omega) only[go_sem,seval,reduceCtorEq,hw]
  refine⟨⟨by omega,by omega⟩, ?_⟩
  have hd0:List.replicate (conL a b).length 0=ac (aE a b) 0:=by rw[D5,hjd]
  have hc0:eN ⟨kk,pp,nn⟩ wd a b keep (repE (aA kk pp wd) n) 0=repE (aA kk pp wd) n:=rfl
  have hx0:List.replicate wd 0=conX ⟨kk,pp,nn⟩ wd a b 0:=rfl
  have hdb:∀ d∈aE a b,1≤d∧d≤1000:=fun d hd=>by have:=h.ia.dbd d hd;omega
  simp only[hd0,hx0]
  refine sV (0) (fun i=>N-i) (mkB 141 2787593144624031034157137155550548859027968) (fun i=>i<N) (fun i=>[]) (fun i=>[(12,iv (eN ⟨kk,pp,nn⟩ wd a b keep (repE (aA kk pp wd) n) i)),(16,iv (ac (aE a b) (i:Int))),(17,iv (conX ⟨kk,pp,nn⟩ wd a b i))]) (hi:=by omega) (h1:=by first | (simp only[go_sem,seval,reduceCtorEq,nz,na,n1,hc0,hd0,hx0];first | done | rfl) | rfl) (h2:=by first | (simp only[go_sem,seval,reduceCtorEq,nz,na,n1,hc0,hd0,hx0];first | done | rfl) | rfl) (hr:=fun i hi=> ?_)
  unfold fQ
  obtain⟨htl,htf⟩:=vc h h.zl h.zf i
  rw[show (Rg.mk kk pp nn).k=kk from rfl,show (Rg.mk kk pp nn).p=pp from rfl]at htl htf
  have hxl:=Fn h i
  have hdl:=aZ (aE a b) i
  have hdl1:=aZ (aE a b) (i+1)
  have hsa:(List.map (ai a.labels a.dims) (conL a b)).length=(conL a b).length:=List.length_map ..
  have hsb:(List.map (ai b.labels b.dims) (conL a b)).length=(conL a b).length:=List.length_map ..
  have hso:(List.map (ai (conK a b keep) (conD a b keep)) (conL a b)).length=(conL a b).length:=List.length_map ..
  have ta:List.take (conL a b).length (List.map (ai a.labels a.dims) (conL a b))=List.map (ai a.labels a.dims) (conL a b):=zt (by omega)
  have tb:List.take (conL a b).length (List.map (ai b.labels b.dims) (conL a b))=List.map (ai b.labels b.dims) (conL a b):=zt (by omega)
  have tO:List.take (conL a b).length (List.map (ai (conK a b keep) (conD a b keep)) (conL a b))=List.map (ai (conK a b keep) (conD a b keep)) (conL a b):=zt (by omega)
  have tx:List.take (conL a b).length (ac (aE a b) i)=ac (aE a b) i:=zt (by omega)
  obtain⟨oa,oa'⟩:=h.ia.off i
  obtain⟨ob,ob'⟩:=h.ib.off i
  obtain⟨oo,oo'⟩:=h.io.off i
  have hna:=h.ia.n1
  have hnb:=h.ib.n1
  have ca:=h.ia.cut h.la i
  have cb:=h.ib.cut h.lb i
  have co:=h.io.cut htl i
  have hnw:n*wd≤4096*6:=Nat.mul_le_mul hn1.2 hwb.2
  have hxa:=ha.x.len
  have hxb:=hb.x.len
  have hnx:eN ⟨kk,pp,nn⟩ wd a b keep (repE (aA kk pp wd) n) (i+1)=putE (eN ⟨kk,pp,nn⟩ wd a b keep (repE (aA kk pp wd) n) i) (bw (conK a b keep) (conD a b keep) (conL a b) (aE a b) i*wd) (addE ⟨kk,pp,nn⟩ (((eN ⟨kk,pp,nn⟩ wd a b keep (repE (aA kk pp wd) n) i).drop (bw (conK a b keep) (conD a b keep) (conL a b) (aE a b) i*wd)).take wd) (conE ⟨kk,pp,nn⟩ wd a b i)):=rfl
  have hnX:conX ⟨kk,pp,nn⟩ wd a b (i+1)=conE ⟨kk,pp,nn⟩ wd a b i:=rfl
  obtain⟨hnl,_⟩:=vc h h.zl h.zf (i+1)
  rw[show (Rg.mk kk pp nn).k=kk from rfl,show (Rg.mk kk pp nn).p=pp from rfl]at hnl
  have hfin:=Hn h
  have hel:=h.el i
  have hef:=h.ef i
  have hmE:mulE ⟨kk,pp,nn⟩ ((a.data.drop (bw a.labels a.dims (conL a b) (aE a b) i*wd)).take wd) ((b.data.drop (bw b.labels b.dims (conL a b) (aE a b) i*wd)).take wd)=conE ⟨kk,pp,nn⟩ wd a b i:=rfl
  generalize eN ⟨kk,pp,nn⟩ wd a b keep (repE (aA kk pp wd) n) i=X at*
  generalize conX ⟨kk,pp,nn⟩ wd a b i=Z at*
  generalize conE ⟨kk,pp,nn⟩ wd a b i=E at*
  have hpE:putE Z 0 E=E:=Eb (by omega)
  have htt:List.take (n*wd) X=X:=zt (by omega)
  have tE:List.take wd E=E:=zt (by omega)
  have tZ:List.take wd Z=Z:=zt (by omega)
  have la1:=fw ca
  have lb1:=fw cb
  have lo1:=fw co
  have had:=i6 (r:=⟨kk,pp,nn⟩) lo1 hel
  have hpl:=bQ (xs:=X) (off:=bw (conK a b keep) (conD a b keep) (conL a b) (aE a b) i*wd) (ys:=addE ⟨kk,pp,nn⟩ ((X.drop (bw (conK a b keep) (conD a b keep) (conL a b) (aE a b) i*wd)).take wd) E) (by omega)
  simp only[go_sem,seval,reduceCtorEq]
  (refine dP (tq (a:=List.map (ai a.labels a.dims) (conL a b)) (b:=ac (aE a b) i) (by omega) (by omega) (fun q _=>h.ia.dotb i q)) ?_ ?_ ?_;(focus (simp only[go_sem,seval,reduceCtorEq,ta,tx,hsa,hdl,hjd];done));(first | rfl | (focus (simp only[go_sem];done))))
  simp only[go_sem,seval,reduceCtorEq,oa]
  (refine zD (r9 (t:=a) (x:=bw a.labels a.dims (conL a b) (aE a b) i) hw (by omega) ca (by omega) (by omega)) ?_)
  simp only[go_sem,seval,reduceCtorEq]
  (refine dP (tq (a:=List.map (ai b.labels b.dims) (conL a b)) (b:=ac (aE a b) i) (by omega) (by omega) (fun q _=>h.ib.dotb i q)) ?_ ?_ ?_;(focus (simp only[go_sem,seval,reduceCtorEq,tb,tx,hsb,hdl,hjd];done));(first | rfl | (focus (simp only[go_sem];done))))
  simp only[go_sem,seval,reduceCtorEq,ob]
  (refine zD (r9 (t:=b) (x:=bw b.labels b.dims (conL a b) (aE a b) i) hw (by omega) cb (by omega) (by omega)) ?_)
  simp only[go_sem,seval,reduceCtorEq]
  (refine eD [17] false (Cm h.ring hw (gW h.fa _ _) (gW h.fb _ _) la1 lb1 (xs:=Z) (off:=0) (by omega) (by omega)) (zd rfl) ?_ ?_ ?_ ?_ (zd rfl) ?_;(focus (simp only[go_sem,seval,reduceCtorEq,hmE,hpE,hxl,hel,la1,lb1,List.take_take,Nat.min_self];done));(focus (simp only[go_sem,seval,reduceCtorEq];done));(focus (simp only[go_sem,seval,reduceCtorEq,hmE,hpE,hxl,hel,la1,lb1,List.take_take,Nat.min_self];done));(focus (simp only[go_sem,seval,reduceCtorEq];done)))
  simp only[go_sem,seval,reduceCtorEq,hmE,hpE]
  (refine dP (tq (a:=List.map (ai (conK a b keep) (conD a b keep)) (conL a b)) (b:=ac (aE a b) i) (by omega) (by omega) (fun q _=>h.io.dotb i q)) ?_ ?_ ?_;(focus (simp only[go_sem,seval,reduceCtorEq,tO,tx,hso,hdl,hjd];done));(first | rfl | (focus (simp only[go_sem];done))))
  simp only[go_sem,seval,reduceCtorEq,oo]
  (refine ER [10,11,12] (A7 (kk:=kk) (pp:=pp) (nn:=nn) (ca:=conK a b keep) (cb:=conD a b keep) (cc:=X) (l:=(conK a b keep).length) (d:=(conD a b keep).length) (x:=bw (conK a b keep) (conD a b keep) (conL a b) (aE a b) i) hw hwb (m:=(repE (aA kk pp wd) n).length) (by omega) (by omega) (by omega)) (zd rfl) ?_ ?_ ?_ ?_ ?_ ?_;(simp only[go_sem,seval,reduceCtorEq]);(first | rfl | simp only[go_sem,seval,reduceCtorEq]);(simp only[go_sem,seval,reduceCtorEq,vwOk]);(simp only[go_sem,seval,reduceCtorEq,idsL,idsA,List.contains_cons,Nat.reduceBEq,Bool.or_true,Bool.true_or]);(first | rfl | simp only[go_sem,seval,reduceCtorEq]))
  simp only[go_sem,seval,reduceCtorEq]
  (refine eD [12] false (Dj h.ring hw (xs:=X) (y:=E) (off:=bw (conK a b keep) (conD a b keep) (conL a b) (aE a b) i*wd) (gW htf _ _) hef hel (by omega) (by omega)) (zd rfl) ?_ ?_ ?_ ?_ (zd rfl) ?_;(focus (simp only[go_sem,seval,reduceCtorEq,hpl,hel,tE];done));(focus (simp only[go_sem,seval,reduceCtorEq];done));(focus (simp only[go_sem,seval,reduceCtorEq,hpl,hel,tE];done));(focus (simp only[go_sem,seval,reduceCtorEq];done)))
  simp only[go_sem,seval,reduceCtorEq]
  have htD:List.take (conL a b).length (aE a b)=aE a b:=zt (by omega)
  (refine eD [16] false (sg (ds:=aE a b) (n:=i) hdb (by omega) (by omega)) (zd rfl) ?_ ?_ ?_ ?_ (zd rfl) ?_;(focus (simp only[go_sem,seval,reduceCtorEq,hjd,htD,hdl,hdl1];done));(focus (simp only[go_sem,seval,reduceCtorEq];done));(focus (simp only[go_sem,seval,reduceCtorEq,hjd,htD,hdl,hdl1];done));(focus (simp only[go_sem,seval,reduceCtorEq];done)))
  by_cases hlast:i+1<N
  ·have hde:decide (((i:Int)+1) % aa (aE a b)≠0)=true:=by
    rw[hpN,Int.emod_eq_of_lt (by omega) (by omega)]
    exact decide_eq_true (by omega)
   simp(disch:=omega) only[go_sem,seval,reduceCtorEq,hde]
   (refine NextS.drop (mkB 141 2787593144624031034157137155550548859027968) (i+1) (by omega) (by omega) (h1:= ?_) (h2:= ?_)<;>first | (simp only[go_sem,seval,reduceCtorEq,nz,na,n1,hnx,hnX];first | done | rfl) | rfl | skip)
  ·have hN:N=i+1:=by omega
   have hde:decide (((i:Int)+1) % aa (aE a b)≠0)=false:=by
    have:(i:Int)+1=N:=by omega
    rw[hpN,this,Int.emod_self]
    rfl
   rw[hN,hnx]at hfin
   rw[hnx]at hnl
   simp(disch:=omega) only[go_sem,seval,reduceCtorEq,hde,Fo e h,hfin,e]
   refine FnEnd.wk Wk.nogA ?_
   (refine zE ?_ ?_<;>try simp only[go_sem,seval,reduceCtorEq])
   all_goals rw[hzl,hnl]
end Go.Proofs.YtjfmckhbmdjnpaaGreat
