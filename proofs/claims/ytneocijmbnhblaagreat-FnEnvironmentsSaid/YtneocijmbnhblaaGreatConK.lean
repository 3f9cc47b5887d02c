/-
 Contracts: what the contraction of two tensors calls. No condition.
-/
import Derived.Test.YtneocijmbnhblaaGreatMgEnvironmentsA
import Derived.Test.YtneocijmbnhblaaGreatTenB
import Derived.Test.YtneocijmbnhblaaGreatConR
set_option linter.unusedSimpArgs false
set_option linter.unusedVariables false
namespace Go.Proofs.YtneocijmbnhblaaGreat
open Go.RowKit Go.Lift Plain
set_option maxRecDepth 100000
theorem wg {ls keep:List Int} (h:ls.length≤1048576) (hk:keep.length≤1048576):Does Tryz.prog 86 [.d (ints ls),.d (ints keep)] [] (.own 0 0 (ls.filter (has keep)).length) [some ⟨1,true,iv (ls.filter (has keep))⟩]:=by
 (refine spec_of (by kernel_rfl) Tryz.func86 oY (fnOk (nb rfl) ?_);unfold C_impl_keptOnly)
 (simp only[Nat.reduceSub,List.length_cons,List.length_nil,Nat.reduceAdd,am,al,aj,ai,ah,af,ae,ac];try simp only[au]);(simp only[go_sem,seval,reduceCtorEq,List.replicate])
 (refine cN (Wk.nilE 5 1 _ _ rfl) ?_;simp only[go_sem,seval,reduceCtorEq])
 refine aZ (ls.length) (mkB 23 4192384) (fun k=>[(5,.own 0 0 ((ls.take k).filter (has keep)).length),(10,.d (.int k))]) (fun k=>[(0,iv ((ls.take k).filter (has keep)))]) (h1:=by first | (simp only[go_sem,seval,reduceCtorEq,nz,na,n1,List.take_zero,List.filter_nil,bL];first | done | rfl) | rfl) (h2:=by first | (simp only[go_sem,seval,reduceCtorEq,nz,na,n1,List.take_zero,List.filter_nil,bL];first | done | rfl) | rfl) (hr:=fun k hk=> ?_)
 unfold L0_impl_keptOnly
 have hfl:=ez ls k (has keep)
 by_cases hlt:k<ls.length
 ·have d1:(k:Int)<ls.length:=by omega
  have g:ls[k]? =some ls[k]:=List.getElem?_eq_getElem hlt
  simp(disch:=omega) only[go_sem,seval,reduceCtorEq,d1,g]
  (refine aa (fJ (xs:=keep) (x:=ls[k]) (by omega)) ?_ ?_ ?_;(focus (simp only[go_sem,seval,reduceCtorEq];done));(first | rfl | (focus (simp only[go_sem];done))))
  cases hh:has keep ls[k]
  ·have e:=fo (p:=has keep) hlt hh
   simp(disch:=omega) only[go_sem,seval,reduceCtorEq,hh]
   (refine Next.drop (mkB 23 4192384) (by omega) (h1:= ?_) (h2:= ?_)<;>first | (simp only[go_sem,seval,reduceCtorEq,nz,na,n1,e];first | done | rfl) | rfl | skip)
  ·have e:=gC (p:=has keep) hlt hh
   simp(disch:=omega) only[go_sem,seval,reduceCtorEq,hh]
   (repeat (refine And.intro (by omega) ?_))
   (refine Next.drop (mkB 23 4192384) (by omega) (h1:= ?_) (h2:= ?_)<;>first | (simp only[go_sem,seval,reduceCtorEq,nz,na,n1,e,List.length_append];first | done | rfl) | rfl | skip)
 ·have d1:¬ (k:Int)<ls.length:=by omega
  obtain rfl:k=ls.length:=by omega
  simp(disch:=omega) only[go_sem,seval,reduceCtorEq,d1,List.take_length]
  (refine FnEnd.mk (nb rfl) rfl (of_decide_eq_true rfl) ?_ ?_<;>try simp only[go_sem,seval,reduceCtorEq])
theorem rE {kk pp:Int} {wd:Nat} (h:1≤wd) (h4:kk=4):iv (aJ kk pp wd)=.d (.int pp) :: iv (List.drop 1 (List.replicate wd (0:Int))):=by
 obtain⟨w,rfl⟩:∃ w,wd=w+1:=⟨wd-1,by omega⟩
 unfold aJ
 rw[if_pos h4]
 rfl
theorem y4 {kk pp nn:Int} {wd:Nat} (hw:ar ⟨kk,pp,nn⟩=wd) (h1:1≤wd∧wd≤6):Does Tryz.prog 87 [bn kk pp nn] [] (.own 0 0 wd) [some ⟨1,true,iv (aJ kk pp wd)⟩]:=by
 have hz:=bO kk pp wd
 (refine spec_of (by kernel_rfl) Tryz.func87 qu (fnOk (nb rfl) ?_);unfold C_impl_rawZero)
 (simp only[Nat.reduceSub,List.length_cons,List.length_nil,Nat.reduceAdd,am,al,aj,ai,ah,af,ae,ac];try simp only[au]);(simp only[go_sem,seval,reduceCtorEq,List.replicate])
 (refine aa (eZ kk pp nn) ?_ ?_ ?_;(focus (simp only[go_sem,seval,reduceCtorEq,hw];done));(first | rfl | (focus (simp only[go_sem];done))))
 simp(disch:=omega) only[go_sem,seval,reduceCtorEq,hw]
 refine And.intro ⟨by omega,by omega⟩ ?_
 by_cases h4:kk=4
 ·have c:(kk==4)=true:=by simp [h4]
  have e:=rE (pp:=pp) h1.1 h4
  have hlr:(List.replicate wd (0:Int)).length=wd:=List.length_replicate
  simp(disch:=omega) only[go_sem,seval,reduceCtorEq,c]
  refine⟨by omega,by rw[hlr];omega, ?_⟩
  rw[e]
  (refine FnEnd.mk (nb rfl) rfl (of_decide_eq_true rfl) ?_ ?_<;>try simp only[go_sem,seval,reduceCtorEq])
 ·have c:(kk==4)=false:=by simp [h4]
  have e:aJ kk pp wd=List.replicate wd 0:=by rw[aJ,if_neg h4]
  simp(disch:=omega) only[go_sem,seval,reduceCtorEq,c,e]
  (refine FnEnd.mk (nb rfl) rfl (of_decide_eq_true rfl) ?_ ?_<;>try simp only[go_sem,seval,reduceCtorEq])
theorem s7 {kk pp nn:Int} {wd:Nat} (hw:ar ⟨kk,pp,nn⟩=wd) (h1:1≤wd∧wd≤6):Does Tryz.prog 109 [bn kk pp nn] [] (.own 0 0 wd) [some ⟨1,true,iv (aJ kk pp wd)⟩]:=by
 have hz:=bO kk pp wd
 (refine spec_of (by kernel_rfl) Tryz.func109 qn (fnOk (nb rfl) ?_);unfold C_spec_l02Zero)
 (simp only[Nat.reduceSub,List.length_cons,List.length_nil,Nat.reduceAdd,am,al,aj,ai,ah,af,ae,ac];try simp only[au]);(simp only[go_sem,seval,reduceCtorEq,List.replicate])
 (refine aa (fj kk pp nn) ?_ ?_ ?_;(focus (simp only[go_sem,seval,reduceCtorEq,hw];done));(first | rfl | (focus (simp only[go_sem];done))))
 simp(disch:=omega) only[go_sem,seval,reduceCtorEq,hw]
 refine And.intro ⟨by omega,by omega⟩ ?_
 by_cases h4:kk=4
 ·have c:(kk==4)=true:=by simp [h4]
  have e:=rE (pp:=pp) h1.1 h4
  have hlr:(List.replicate wd (0:Int)).length=wd:=List.length_replicate
  simp(disch:=omega) only[go_sem,seval,reduceCtorEq,c]
  refine⟨by omega,by rw[hlr];omega, ?_⟩
  rw[e]
  (refine FnEnd.mk (nb rfl) rfl (of_decide_eq_true rfl) ?_ ?_<;>try simp only[go_sem,seval,reduceCtorEq])
 ·have c:(kk==4)=false:=by simp [h4]
  have e:aJ kk pp wd=List.replicate wd 0:=by rw[aJ,if_neg h4]
  simp(disch:=omega) only[go_sem,seval,reduceCtorEq,c,e]
  (refine FnEnd.mk (nb rfl) rfl (of_decide_eq_true rfl) ?_ ?_<;>try simp only[go_sem,seval,reduceCtorEq])
theorem nA {kk pp nn:Int} {wd n:Nat} {ls ds:List Int} (hw:ar ⟨kk,pp,nn⟩=wd) (h1:1≤wd∧wd≤6) (hls:ls.length≤1048576) (hds:ds.length≤1048576) (hd:∀ d∈ds,1≤d∧d≤100) (hn:ab ds=n) (hn2:n≤4096):
  Does Tryz.prog 76 [bn kk pp nn,.d (ints ls),.d (ints ds)] [] (ownT 0 ⟨ls,ds,repE (aJ kk pp wd) n⟩) (stoT ⟨ls,ds,repE (aJ kk pp wd) n⟩):=by
 have hz:=bO kk pp wd
 have hmn:min (ab ds) 4097=(n:Int):=by omega
 (refine spec_of (by kernel_rfl) Tryz.func76 qi (fnOk (nb rfl) ?_);unfold C_spec_l05Zero)
 (simp only[Nat.reduceSub,List.length_cons,List.length_nil,Nat.reduceAdd,am,al,aj,ai,ah,af,ae,ac];try simp only[au]);(simp only[go_sem,seval,reduceCtorEq,List.replicate])
 (refine aa (iw (xs:=ls) (by omega)) ?_ ?_ ?_;(focus (simp only[go_sem,seval,reduceCtorEq];done));(first | rfl | (focus (simp only[go_sem];done))))
 simp only[go_sem,seval,reduceCtorEq]
 (refine aa (iw (xs:=ds) (by omega)) ?_ ?_ ?_;(focus (simp only[go_sem,seval,reduceCtorEq];done));(first | rfl | (focus (simp only[go_sem];done))))
 simp only[go_sem,seval,reduceCtorEq]
 (refine aa (dM (ds:=ds) (lim:=4096) (by omega) hd (by omega)) ?_ ?_ ?_;(focus (simp only[go_sem,seval,reduceCtorEq,hmn];done));(first | rfl | (focus (simp only[go_sem];done))))
 simp only[go_sem,seval,reduceCtorEq,hmn]
 (refine cN (Wk.nilS 4 2 1 _ _ _ rfl rfl) ?_;simp only[go_sem,seval,reduceCtorEq])
 have hr0:repE (aJ kk pp wd) 0=[]:=rfl
 refine aZ (n) (mkB 27 67043328) (fun k=>[(8,.d (.int ((n:Int)-k)))]) (fun k=>[(4,[.own 2 0 ls.length,.own 3 0 ds.length,.own 5 0 (repE (aJ kk pp wd) k).length]),(5,iv (repE (aJ kk pp wd) k))]) (h1:=by first | (simp only[go_sem,seval,reduceCtorEq,nz,na,n1,hr0,bL,Int.sub_zero];first | done | rfl) | rfl) (h2:=by first | (simp only[go_sem,seval,reduceCtorEq,nz,na,n1,hr0,bL,Int.sub_zero];first | done | rfl) | rfl) (hr:=fun k hk=> ?_)
 unfold L0_spec_l05Zero
 have hrl:=dh (aJ kk pp wd) k
 have hkw:k*wd≤4096*6:=Nat.mul_le_mul (by omega) h1.2
 rw[hz]at hrl
 by_cases hlt:k<n
 ·have d1:(n:Int)-k>0:=by omega
  have e8:(n:Int)-k-1=(n:Int)-(k+1):=by omega
  simp(disch:=omega) only[go_sem,seval,reduceCtorEq,d1]
  (refine aC (s7 (kk:=kk) (pp:=pp) (nn:=nn) hw h1) ?_ ?_ ?_;(focus (simp only[go_sem,seval,reduceCtorEq];done));(first | rfl | (focus (simp only[go_sem];done))))
  have htz:List.take wd (aJ kk pp wd)=aJ kk pp wd:=List.take_of_length_le (by omega)
  have hle:(wd≤wd)=True:=by simp
  simp(disch:=omega) only[go_sem,seval,reduceCtorEq,hz,htz,hle,if_true]
  (repeat (refine And.intro (by omega) ?_))
  have hrn:repE (aJ kk pp wd) (k+1)=repE (aJ kk pp wd) k++aJ kk pp wd:=rfl
  (refine Next.drop (mkB 27 67043328) (by omega) (h1:= ?_) (h2:= ?_)<;>first | (simp only[go_sem,seval,reduceCtorEq,nz,na,n1,hrn,e8,List.length_append,hz];first | done | rfl) | rfl | skip)
 ·have d1:¬ (n:Int)-k>0:=by omega
  obtain rfl:k=n:=by omega
  simp(disch:=omega) only[go_sem,seval,reduceCtorEq,d1]
  (refine FnEnd.mk (nb rfl) rfl (of_decide_eq_true rfl) ?_ ?_<;>try simp only[go_sem,seval,reduceCtorEq])
theorem mL {kk pp nn:Int} {wd n:Nat} {ls ds z:List Int} (hz:z.length=wd) (h1:1≤wd∧wd≤6) (hls:ls.length≤1048576) (hds:ds.length≤1048576) (hd:∀ d∈ds,1≤d) (hn:ab ds=n) (hn2:n≤4096):
  Does Tryz.prog 31 [bn kk pp nn,.d (ints ls),.d (ints ds),.d (ints z)] [] (ownT 0 ⟨ls,ds,repE z n⟩) (stoT ⟨ls,ds,repE z n⟩):=by
 (refine spec_of (by kernel_rfl) Tryz.func31 mw (fnOk (nb rfl) ?_);unfold C_impl_fillTensor)
 (simp only[Nat.reduceSub,List.length_cons,List.length_nil,Nat.reduceAdd,am,al,aj,ai,ah,af,ae,ac];try simp only[au]);(simp only[go_sem,seval,reduceCtorEq,List.replicate])
 (refine aa (cz (xs:=ls) (by omega)) ?_ ?_ ?_;(focus (simp only[go_sem,seval,reduceCtorEq];done));(first | rfl | (focus (simp only[go_sem];done))))
 simp only[go_sem,seval,reduceCtorEq]
 (refine aa (cz (xs:=ds) (by omega)) ?_ ?_ ?_;(focus (simp only[go_sem,seval,reduceCtorEq];done));(first | rfl | (focus (simp only[go_sem];done))))
 simp only[go_sem,seval,reduceCtorEq]
 (refine aa (jI (ds:=ds) (by omega) hd (by omega)) ?_ ?_ ?_;(focus (simp only[go_sem,seval,reduceCtorEq];done));(first | rfl | (focus (simp only[go_sem];done))))
 have hnw:n*wd≤4096*6:=Nat.mul_le_mul hn2 h1.2
 have hm:((n:Int)*(z.length:Int))=((n*wd:Nat):Int):=by rw[hz,Int.natCast_mul]
 simp(disch:=omega) only[go_sem,seval,reduceCtorEq,hn,hm]
 refine And.intro (by omega) ?_
 have hr0:repE z 0=[]:=rfl
 refine aZ (n) (mkB 36 34334572544) (fun k=>[(11,.d (.int k))]) (fun k=>[(4,[.own 2 0 ls.length,.own 3 0 ds.length,.own 5 0 (repE z k).length]),(5,iv (repE z k))]) (h1:=by first | (simp only[go_sem,seval,reduceCtorEq,nz,na,n1,hr0,bL,List.length_nil];first | done | rfl) | rfl) (h2:=by first | (simp only[go_sem,seval,reduceCtorEq,nz,na,n1,hr0,bL,List.length_nil];first | done | rfl) | rfl) (hr:=fun k hk=> ?_)
 unfold L0_impl_fillTensor
 have hrl:=dh z k
 have hkw:k*wd≤4096*6:=Nat.mul_le_mul (by omega) h1.2
 rw[hz]at hrl
 by_cases hlt:k<n
 ·have d1:(k:Int)<n:=by omega
  have hrn:repE z (k+1)=repE z k++z:=rfl
  simp(disch:=omega) only[go_sem,seval,reduceCtorEq,d1]
  (repeat (refine And.intro (by omega) ?_))
  (refine Next.drop (mkB 36 34334572544) (by omega) (h1:= ?_) (h2:= ?_)<;>first | (simp only[go_sem,seval,reduceCtorEq,nz,na,n1,hrn,List.length_append];first | done | rfl) | rfl | skip)
 ·have d1:¬ (k:Int)<n:=by omega
  obtain rfl:k=n:=by omega
  simp(disch:=omega) only[go_sem,seval,reduceCtorEq,d1]
  (refine FnEnd.mk (nb rfl) rfl (of_decide_eq_true rfl) ?_ ?_<;>try simp only[go_sem,seval,reduceCtorEq])
set_option maxRecDepth 100000
theorem Fx:dv []=[]:=nr rfl
set_option maxRecDepth 100000
theorem tG {kk pp nn:Int} {wd n:Nat} {ls ds z:List Int} (hz:z.length=wd) (h1:1≤wd∧wd≤6) (hls:ls.length≤1048576) (hds:ds.length≤1048576) (hd:∀ d∈ds,1≤d) (hn:ab ds=n) (hn2:n≤4096):
  Does Tryz.prog 31 [bn kk pp nn,.d (ints ls),.d (ints ds),.d (ints z)] [] (ownT 0 ⟨ls,ds,repE z n⟩) (stoF ⟨ls,ds,repE z n⟩):=(mL hz h1 hls hds hd hn hn2).nog [0,1,2] rfl
def conX (r:Rg) (wd:Nat) (a b:Ten):Nat→List Int
 | 0=>List.replicate wd 0
 | i+1=>conE r wd a b i
theorem Bb {r:Rg} {a b:Ten} {keep:List Int} {wd ua ub n N:Nat} (h:ConOk r a b keep wd ua ub n N):∀ i,(conX r wd a b i).length=wd
 | 0=>by simp [conX]
 | i+1=>h.el i
theorem zM {xs ys:List Int} (h:xs.length=ys.length):putE xs 0 ys=ys:=by simp [putE,h]
set_option maxHeartbeats 2000000 in
theorem p6 {kk pp nn:Int} {a b:Ten} {keep:List Int} (za:I64 kk) (zb:I64 pp) (zc:I64 nn) (ha:TSz 1048576 a) (hb:TSz 1048576 b) (hk:Sz 1048576 keep):
  Does Tryz.prog 38 [bn kk pp nn,tenA a,tenA b,.d (ints keep)] [] (.tup [ownT 0 (conT ⟨kk,pp,nn⟩ a b keep),.d (.bool (conB ⟨kk,pp,nn⟩ a b keep))]) (stoF (conT ⟨kk,pp,nn⟩ a b keep)):=by
 have hno:conB ⟨kk,pp,nn⟩ a b keep=false→conT ⟨kk,pp,nn⟩ a b keep=⟨[],[],[]⟩:=CU
 have hkl:=hk.len
 (refine spec_of (by kernel_rfl) Tryz.func38 kR (fnOk (nb rfl) ?_);unfold C_impl_ContractPair)
 (simp only[Nat.reduceSub,List.length_cons,List.length_nil,Nat.reduceAdd,am,al,aj,ai,ah,af,ae,ac];try simp only[au]);(simp only[go_sem,seval,reduceCtorEq,List.replicate])
 (refine aa (db (t:=a) za zb zc ha.up) ?_ ?_ ?_;(focus (simp only[go_sem,seval,reduceCtorEq];done));(first | rfl | (focus (simp only[go_sem];done))))
 cases h1:aA ⟨kk,pp,nn⟩ a.labels a.dims a.data
 ·have e:conB ⟨kk,pp,nn⟩ a b keep=false:=by simp only[conB,h1,Bool.false_and]
  simp only[go_sem,seval,reduceCtorEq,h1,e,hno e]
  refine FnEnd.wk (Wk.trans (Wk.nilS 3 0 1 _ _ _ rfl rfl) (Wk.trans (Wk.nilS 3 1 1 _ _ _ rfl rfl) (Wk.trans (Wk.nilS 3 2 1 _ _ _ rfl rfl) Wk.nogA))) ?_
  (refine FnEnd.mk (nb rfl) rfl (of_decide_eq_true rfl) ?_ ?_<;>try simp only[go_sem,seval,reduceCtorEq])
 simp only[go_sem,seval,reduceCtorEq,h1]
 (refine aa (db (t:=b) za zb zc hb.up) ?_ ?_ ?_;(focus (simp only[go_sem,seval,reduceCtorEq];done));(first | rfl | (focus (simp only[go_sem];done))))
 cases h2:aA ⟨kk,pp,nn⟩ b.labels b.dims b.data
 ·have e:conB ⟨kk,pp,nn⟩ a b keep=false:=by simp only[conB,h2,Bool.false_and,Bool.and_false]
  simp only[go_sem,seval,reduceCtorEq,h2,e,hno e]
  refine FnEnd.wk (Wk.trans (Wk.nilS 3 0 1 _ _ _ rfl rfl) (Wk.trans (Wk.nilS 3 1 1 _ _ _ rfl rfl) (Wk.trans (Wk.nilS 3 2 1 _ _ _ rfl rfl) Wk.nogA))) ?_
  (refine FnEnd.mk (nb rfl) rfl (of_decide_eq_true rfl) ?_ ?_<;>try simp only[go_sem,seval,reduceCtorEq])
 simp only[go_sem,seval,reduceCtorEq,h2]
 obtain⟨wa,ua,a1,a2,a3,a4,a5,a6,a7,a8,a9,a10⟩:=cD h1
 obtain⟨wb,ub,b1,b2,b3,b4,b5,b6,b7,b8,b9,b10⟩:=cD h2
 have hll:=kG a.labels b.labels
 have l1:=a10.1
 have l2:=b10.1
 have hjd:=nP a b
 have hpj:=qA a10 b10 (by omega) (by omega)
 cases hj:fP a b
 ·have e:conB ⟨kk,pp,nn⟩ a b keep=false:=by simp only[conB,hj,Bool.and_false,Bool.false_and]
  (refine aa (vb a10 b10 hj) ?_ ?_ ?_;(focus (simp only[go_sem,seval,reduceCtorEq];done));(first | rfl | (focus (simp only[go_sem];done))))
  simp only[go_sem,seval,reduceCtorEq,e,hno e]
  refine FnEnd.wk (Wk.trans (Wk.nilS 3 0 1 _ _ _ rfl rfl) (Wk.trans (Wk.nilS 3 1 1 _ _ _ rfl rfl) (Wk.trans (Wk.nilS 3 2 1 _ _ _ rfl rfl) Wk.nogA))) ?_
  (refine FnEnd.mk (nb rfl) rfl (of_decide_eq_true rfl) ?_ ?_<;>try simp only[go_sem,seval,reduceCtorEq])
 (refine aa (wj a10 b10 hj) ?_ ?_ ?_;(focus (simp only[go_sem,seval,reduceCtorEq];done));(first | rfl | (focus (simp only[go_sem];done))))
 have htj:List.take (aK a.labels b.labels).length (aM a b)=aM a b:=List.take_of_length_le (by omega)
 simp only[go_sem,seval,reduceCtorEq]
 (refine aa (jI (ds:=aM a b) (by omega) (fun d hd=>(mD a10 b10 d hd).1) (by omega)) ?_ ?_ ?_;(focus (simp only[go_sem,seval,reduceCtorEq,hjd,htj];done));(first | rfl | (focus (simp only[go_sem];done))))
 by_cases hp:ab (aM a b)≤65536
 rotate_left
 ·have e:conB ⟨kk,pp,nn⟩ a b keep=false:=by rw[conB,decide_eq_false hp];simp
  have c:ab (aM a b)>65536:=by omega
  simp only[go_sem,seval,reduceCtorEq,c,e,hno e]
  refine FnEnd.wk (Wk.trans (Wk.nilS 3 0 1 _ _ _ rfl rfl) (Wk.trans (Wk.nilS 3 1 1 _ _ _ rfl rfl) (Wk.trans (Wk.nilS 3 2 1 _ _ _ rfl rfl) Wk.nogA))) ?_
  (refine FnEnd.mk (nb rfl) rfl (of_decide_eq_true rfl) ?_ ?_<;>try simp only[go_sem,seval,reduceCtorEq])
 have c:¬ ab (aM a b)>65536:=by omega
 simp only[go_sem,seval,reduceCtorEq,c]
 (refine aa (wg (ls:=aK a.labels b.labels) (keep:=keep) (by omega) hkl) ?_ ?_ ?_;(focus (simp only[go_sem,seval,reduceCtorEq];done));(first | rfl | (focus (simp only[go_sem];done))))
 have hfl:(conK a b keep).length≤24:=by
  have:=ez (aK a.labels b.labels) (aK a.labels b.labels).length (has keep)
  rw[List.take_length]at this
  show ((aK a.labels b.labels).filter (has keep)).length≤24
  omega
 have hcl:(conD a b keep).length=(conK a b keep).length:=List.length_map ..
 have hnd:(conL a b).Nodup:=mC (bG a10) (bG b10)
 rw[show (aK a.labels b.labels).filter (has keep)=conK a b keep from rfl,show aK a.labels b.labels=conL a b from rfl]
 rw[show aK a.labels b.labels=conL a b from rfl]at hll hjd htj
 simp(disch:=omega) only[go_sem,seval,reduceCtorEq]
 refine⟨by omega, ?_⟩
 refine aZ ((conK a b keep).length) (mkB 141 38685623921825124377395200) (fun k=>[(60,.d (.int k))]) (fun k=>[(7,iv (mix (conD a b keep) (List.replicate (conK a b keep).length 0) k))]) (h1:=by first | (simp only[go_sem,seval,reduceCtorEq,nz,na,n1,cy];first | done | rfl) | rfl) (h2:=by first | (simp only[go_sem,seval,reduceCtorEq,nz,na,n1,cy];first | done | rfl) | rfl) (hr:=fun k hk=> ?_)
 unfold L2_impl_ContractPair
 have hmz:(conD a b keep).length=(List.replicate (conK a b keep).length (0:Int)).length:=by simp [hcl]
 by_cases hlt:k<(conK a b keep).length
 ·have d1:(k:Int)<(conK a b keep).length:=by omega
  have g:(conK a b keep)[k]? =some (conK a b keep)[k]:=List.getElem?_eq_getElem hlt
  have hKm:(conK a b keep)[k]∈conL a b:=(List.mem_filter.1 (List.getElem_mem hlt)).1
  simp(disch:=omega) only[go_sem,seval,reduceCtorEq,d1,g]
  refine aZ ((conL a b).length) (mkB 141 19342517965928887442866176) (fun q=>[(67,.d (.int q))]) (fun q=>[(7,iv (mix (conD a b keep) (List.replicate (conK a b keep).length 0) (if (conK a b keep)[k]∈(conL a b).take q then k+1 else k)))]) (h1:=by first | (simp only[go_sem,seval,reduceCtorEq,nz,na,n1,List.take_zero,List.not_mem_nil,if_false];first | done | rfl) | rfl) (h2:=by first | (simp only[go_sem,seval,reduceCtorEq,nz,na,n1,List.take_zero,List.not_mem_nil,if_false];first | done | rfl) | rfl) (hr:=fun q hq=> ?_)
  unfold L1_impl_ContractPair
  by_cases hltq:q<(conL a b).length
  ·have d2:(q:Int)<(conL a b).length:=by omega
   have d3:(q:Int)<(aM a b).length:=by omega
   have gq:(conL a b)[q]? =some (conL a b)[q]:=List.getElem?_eq_getElem hltq
   have gd:(aM a b)[q]? =some ((aM a b).getD q 0):=by rw[ao (by omega)];exact List.getElem?_eq_getElem (by omega)
   have hfr:=ec hnd hltq
   by_cases hx:(conL a b)[q]=(conK a b keep)[k]
   ·have hxe:((conL a b)[q]==(conK a b keep)[k])=true:=by simp [hx]
    have e0:¬ (conK a b keep)[k]∈(conL a b).take q:=by rw[← hx];exact hfr
    have e1:(conK a b keep)[k]∈(conL a b).take (q+1):=by rw[bm hltq];exact List.mem_append_right _ (by rw[hx];exact List.mem_singleton_self _)
    have hml:=gR (k:=k) hmz
    have hmn:=fH (k:=k) hmz (show (conD a b keep)[k]? =some ((aM a b).getD q 0)by
     rw[← wH hnd hltq,hx,conD,List.getElem?_map,g];rfl)
    simp(disch:=omega) only[go_sem,seval,reduceCtorEq,d2,gq,hxe,d1,d3,gd,e0]
    refine⟨by omega, ?_⟩
    (refine Next.drop (mkB 141 19342517965928887442866176) (by omega) (h1:= ?_) (h2:= ?_)<;>first | (simp only[go_sem,seval,reduceCtorEq,nz,na,n1,hmn,e1];first | done | rfl) | rfl | skip)
   ·have hxe:((conL a b)[q]==(conK a b keep)[k])=false:=by simp [hx]
    have e1:((conK a b keep)[k]∈(conL a b).take (q+1))=((conK a b keep)[k]∈(conL a b).take q):=by
     rw[bm hltq,List.mem_append,List.mem_singleton,eq_iff_iff]
     exact⟨fun h=>h.resolve_right (fun e=>hx e.symm),.inl⟩
    simp(disch:=omega) only[go_sem,seval,reduceCtorEq,d2,gq,hxe]
    (refine Next.drop (mkB 141 19342517965928887442866176) (by omega) (h1:= ?_) (h2:= ?_)<;>first | (simp only[go_sem,seval,reduceCtorEq,nz,na,n1,e1];first | done | rfl) | rfl | skip)
  ·have d2:¬ (q:Int)<(conL a b).length:=by omega
   have htq:List.take q (conL a b)=conL a b:=List.take_of_length_le (by omega)
   simp(disch:=omega) only[go_sem,seval,reduceCtorEq,d2,htq,hKm]
   (refine Next.drop (mkB 141 38685623921825124377395200) (by omega) (h1:= ?_) (h2:= ?_)<;>first | (simp only[go_sem,seval,reduceCtorEq,nz,na,n1];first | done | rfl) | rfl | skip)
 ·have d1:¬ (k:Int)<(conK a b keep).length:=by omega
  have hf:mix (conD a b keep) (List.replicate (conK a b keep).length 0) k=conD a b keep:=gt (by simp;omega) (by omega)
  have htk:List.take (conK a b keep).length (conD a b keep)=conD a b keep:=List.take_of_length_le (by omega)
  simp(disch:=omega) only[go_sem,seval,reduceCtorEq,d1,hf]
  (refine aa (i7 (t:=⟨conK a b keep,conD a b keep,[]⟩) (Bg (keep:=keep) a10 b10 ha hb DH).up) ?_ ?_ ?_;(focus (simp only[go_sem,seval,reduceCtorEq,hcl,htk,Fx];done));(first | rfl | (focus (simp only[go_sem];done))))
  rcases d9 (conK a b keep) (conD a b keep)with hs | ⟨s1,s2,s3,s4⟩
  ·have e:conB ⟨kk,pp,nn⟩ a b keep=false:=by rw[conB,hs];simp
   simp only[go_sem,seval,reduceCtorEq,hs,e,hno e]
   refine FnEnd.wk (Wk.trans (Wk.nilS 3 0 1 _ _ _ rfl rfl) (Wk.trans (Wk.nilS 3 1 1 _ _ _ rfl rfl) (Wk.trans (Wk.nilS 3 2 1 _ _ _ rfl rfl) Wk.nogA))) ?_
   (refine FnEnd.mk (nb rfl) rfl (of_decide_eq_true rfl) ?_ ?_<;>try simp only[go_sem,seval,reduceCtorEq])
  have e:conB ⟨kk,pp,nn⟩ a b keep=true:=by
   simp only[conB,hj,h1,h2,hp,Bool.true_and,decide_true]
   exact decide_eq_true (by omega)
  have c3:(be (conK a b keep) (conD a b keep)== -1)=false:=by rw[s3];simp;omega
  obtain⟨wd,na',nb',n,N,h⟩:=Bf e
  have hwb:=h.wb
  have hpn:=h.io.pn
  have hn1:=h.io.n1
  have hpN:=h.pN
  have hN1:=h.N1
  simp only[go_sem,seval,reduceCtorEq,c3]
  (refine aC (y4 (kk:=kk) (pp:=pp) (nn:=nn) h.w hwb) ?_ ?_ ?_;(focus (simp only[go_sem,seval,reduceCtorEq];done));(first | rfl | (focus (simp only[go_sem];done))))
  have hzt:List.take wd (aJ kk pp wd)=aJ kk pp wd:=List.take_of_length_le (by rw[bO];omega)
  simp only[go_sem,seval,reduceCtorEq]
  (refine aa (tG (kk:=kk) (pp:=pp) (nn:=nn) (ls:=conK a b keep) (ds:=conD a b keep) (bO kk pp wd) hwb (by omega) (by omega) (fun d hd=>(s1.dim d hd).1) hpn hn1.2) ?_ ?_ ?_;(focus (simp only[go_sem,seval,reduceCtorEq,hcl,htk,bO,hzt];done));(first | rfl | (focus (simp only[go_sem];done))))
  simp only[go_sem,seval,reduceCtorEq]
  (refine aC (gK (t:=a) (L:=conL a b) a10 (by omega) (by omega)) ?_ ?_ ?_;(focus (simp only[go_sem,seval,reduceCtorEq];done));(first | rfl | (focus (simp only[go_sem];done))))
  simp only[go_sem,seval,reduceCtorEq]
  (refine aC (gK (t:=b) (L:=conL a b) b10 (by omega) (by omega)) ?_ ?_ ?_;(focus (simp only[go_sem,seval,reduceCtorEq];done));(first | rfl | (focus (simp only[go_sem];done))))
  simp only[go_sem,seval,reduceCtorEq]
  have hzl:=h.zl
  rw[show (Rg.mk kk pp nn).k=kk from rfl,show (Rg.mk kk pp nn).p=pp from rfl]at hzl
  have htz:List.take (n*wd) (repE (aJ kk pp wd) n)=repE (aJ kk pp wd) n:=List.take_of_length_le (by omega)
  (refine aa (gK (t:=⟨conK a b keep,conD a b keep,repE (aJ kk pp wd) n⟩) (L:=conL a b) h.io.ax (by show ab (conD a b keep)≤4096;omega) (by omega)) ?_ ?_ ?_;(focus (simp only[go_sem,seval,reduceCtorEq,hcl,htk,hzl,htz];done));(first | rfl | (focus (simp only[go_sem];done))))
  simp(disch:=omega) only[go_sem,seval,reduceCtorEq]
  refine⟨by omega, ?_⟩
  have hw:=h.w
  (refine aa (eZ kk pp nn) ?_ ?_ ?_;(focus (simp only[go_sem,seval,reduceCtorEq,hw];done));(first | rfl | (focus (simp only[go_sem];done))))
  simp(disch:=omega) only[go_sem,seval,reduceCtorEq,hw]
  refine⟨⟨by omega,by omega⟩, ?_⟩
  have hd0:List.replicate (conL a b).length 0=an (aM a b) 0:=by rw[yN,hjd]
  have hc0:eQ ⟨kk,pp,nn⟩ wd a b keep (repE (aJ kk pp wd) n) 0=repE (aJ kk pp wd) n:=rfl
  have hx0:List.replicate wd 0=conX ⟨kk,pp,nn⟩ wd a b 0:=rfl
  have hdb:∀ d∈aM a b,1≤d∧d≤1000:=fun d hd=>by have:=h.ia.dbd d hd;omega
  simp only[hd0,hx0]
  refine p7 (0) (fun i=>N-i) (mkB 141 2787593144624031034157137155550548859027968) (fun i=>i<N) (fun i=>[]) (fun i=>[(12,iv (eQ ⟨kk,pp,nn⟩ wd a b keep (repE (aJ kk pp wd) n) i)),(16,iv (an (aM a b) (i:Int))),(17,iv (conX ⟨kk,pp,nn⟩ wd a b i))]) (hi:=by omega) (h1:=by first | (simp only[go_sem,seval,reduceCtorEq,nz,na,n1,hc0,hd0,hx0];first | done | rfl) | rfl) (h2:=by first | (simp only[go_sem,seval,reduceCtorEq,nz,na,n1,hc0,hd0,hx0];first | done | rfl) | rfl) (hr:=fun i hi=> ?_)
  unfold L0_impl_ContractPair
  obtain⟨htl,htf⟩:=qR h h.zl h.zf i
  rw[show (Rg.mk kk pp nn).k=kk from rfl,show (Rg.mk kk pp nn).p=pp from rfl]at htl htf
  have hxl:=Bb h i
  have hdl:=bg (aM a b) i
  have hdl1:=bg (aM a b) (i+1)
  have hsa:(List.map (aw a.labels a.dims) (conL a b)).length=(conL a b).length:=List.length_map ..
  have hsb:(List.map (aw b.labels b.dims) (conL a b)).length=(conL a b).length:=List.length_map ..
  have hso:(List.map (aw (conK a b keep) (conD a b keep)) (conL a b)).length=(conL a b).length:=List.length_map ..
  have ta:List.take (conL a b).length (List.map (aw a.labels a.dims) (conL a b))=List.map (aw a.labels a.dims) (conL a b):=List.take_of_length_le (by omega)
  have tb:List.take (conL a b).length (List.map (aw b.labels b.dims) (conL a b))=List.map (aw b.labels b.dims) (conL a b):=List.take_of_length_le (by omega)
  have tO:List.take (conL a b).length (List.map (aw (conK a b keep) (conD a b keep)) (conL a b))=List.map (aw (conK a b keep) (conD a b keep)) (conL a b):=List.take_of_length_le (by omega)
  have tx:List.take (conL a b).length (an (aM a b) i)=an (aM a b) i:=List.take_of_length_le (by omega)
  obtain⟨oa,oa'⟩:=h.ia.off i
  obtain⟨ob,ob'⟩:=h.ib.off i
  obtain⟨oo,oo'⟩:=h.io.off i
  have hna:=h.ia.n1
  have hnb:=h.ib.n1
  have ca:=h.ia.cut h.la i
  have cb:=h.ib.cut h.lb i
  have co:=h.io.cut htl i
  have hnw:n*wd≤4096*6:=Nat.mul_le_mul hn1.2 hwb.2
  have hxa:=ha.x.len
  have hxb:=hb.x.len
  have hnx:eQ ⟨kk,pp,nn⟩ wd a b keep (repE (aJ kk pp wd) n) (i+1)=putE (eQ ⟨kk,pp,nn⟩ wd a b keep (repE (aJ kk pp wd) n) i) (bN (conK a b keep) (conD a b keep) (conL a b) (aM a b) i*wd) (addE ⟨kk,pp,nn⟩ (((eQ ⟨kk,pp,nn⟩ wd a b keep (repE (aJ kk pp wd) n) i).drop (bN (conK a b keep) (conD a b keep) (conL a b) (aM a b) i*wd)).take wd) (conE ⟨kk,pp,nn⟩ wd a b i)):=rfl
  have hnX:conX ⟨kk,pp,nn⟩ wd a b (i+1)=conE ⟨kk,pp,nn⟩ wd a b i:=rfl
  obtain⟨hnl,_⟩:=qR h h.zl h.zf (i+1)
  rw[show (Rg.mk kk pp nn).k=kk from rfl,show (Rg.mk kk pp nn).p=pp from rfl]at hnl
  have hfin:=CV h
  have hel:=h.el i
  have hef:=h.ef i
  have hmE:mulE ⟨kk,pp,nn⟩ ((a.data.drop (bN a.labels a.dims (conL a b) (aM a b) i*wd)).take wd) ((b.data.drop (bN b.labels b.dims (conL a b) (aM a b) i*wd)).take wd)=conE ⟨kk,pp,nn⟩ wd a b i:=rfl
  generalize eQ ⟨kk,pp,nn⟩ wd a b keep (repE (aJ kk pp wd) n) i=X at*
  generalize conX ⟨kk,pp,nn⟩ wd a b i=Z at*
  generalize conE ⟨kk,pp,nn⟩ wd a b i=E at*
  have hpE:putE Z 0 E=E:=zM (by omega)
  have htt:List.take (n*wd) X=X:=List.take_of_length_le (by omega)
  have tE:List.take wd E=E:=List.take_of_length_le (by omega)
  have tZ:List.take wd Z=Z:=List.take_of_length_le (by omega)
  have la1:=ep ca
  have lb1:=ep cb
  have lo1:=ep co
  have had:=eR (r:=⟨kk,pp,nn⟩) lo1 hel
  have hpl:=bM (xs:=X) (off:=bN (conK a b keep) (conD a b keep) (conL a b) (aM a b) i*wd) (ys:=addE ⟨kk,pp,nn⟩ ((X.drop (bN (conK a b keep) (conD a b keep) (conL a b) (aM a b) i*wd)).take wd) E) (by omega)
  simp only[go_sem,seval,reduceCtorEq]
  (refine aC (py (a:=List.map (aw a.labels a.dims) (conL a b)) (b:=an (aM a b) i) (by omega) (by omega) (fun q _=>h.ia.dotb i q)) ?_ ?_ ?_;(focus (simp only[go_sem,seval,reduceCtorEq,ta,tx,hsa,hdl,hjd];done));(first | rfl | (focus (simp only[go_sem];done))))
  simp only[go_sem,seval,reduceCtorEq,oa]
  (refine aC (kx (t:=a) (x:=bN a.labels a.dims (conL a b) (aM a b) i) hw (by omega) ca (by omega) (by omega)) ?_ ?_ ?_;(focus (simp only[go_sem,seval,reduceCtorEq];done));(first | rfl | (focus (simp only[go_sem];done))))
  simp only[go_sem,seval,reduceCtorEq]
  (refine aC (py (a:=List.map (aw b.labels b.dims) (conL a b)) (b:=an (aM a b) i) (by omega) (by omega) (fun q _=>h.ib.dotb i q)) ?_ ?_ ?_;(focus (simp only[go_sem,seval,reduceCtorEq,tb,tx,hsb,hdl,hjd];done));(first | rfl | (focus (simp only[go_sem];done))))
  simp only[go_sem,seval,reduceCtorEq,ob]
  (refine aC (kx (t:=b) (x:=bN b.labels b.dims (conL a b) (aM a b) i) hw (by omega) cb (by omega) (by omega)) ?_ ?_ ?_;(focus (simp only[go_sem,seval,reduceCtorEq];done));(first | rfl | (focus (simp only[go_sem];done))))
  simp only[go_sem,seval,reduceCtorEq]
  (refine dU [17] false (yf h.ring hw (eO h.fa _ _) (eO h.fb _ _) la1 lb1 (xs:=Z) (off:=0) (by omega) (by omega)) (of_decide_eq_true rfl) ?_ ?_ ?_ ?_ (of_decide_eq_true rfl) ?_;(focus (simp only[go_sem,seval,reduceCtorEq,hmE,hpE,hxl,hel,la1,lb1,List.take_take,Nat.min_self];done));(focus (simp only[go_sem,seval,reduceCtorEq];done));(focus (simp only[go_sem,seval,reduceCtorEq,hmE,hpE,hxl,hel,la1,lb1,List.take_take,Nat.min_self];done));(focus (simp only[go_sem,seval,reduceCtorEq];done)))
  simp only[go_sem,seval,reduceCtorEq,hmE,hpE]
  (refine aC (py (a:=List.map (aw (conK a b keep) (conD a b keep)) (conL a b)) (b:=an (aM a b) i) (by omega) (by omega) (fun q _=>h.io.dotb i q)) ?_ ?_ ?_;(focus (simp only[go_sem,seval,reduceCtorEq,tO,tx,hso,hdl,hjd];done));(first | rfl | (focus (simp only[go_sem];done))))
  simp only[go_sem,seval,reduceCtorEq,oo]
  (refine vg [10,11,12] (pS (kk:=kk) (pp:=pp) (nn:=nn) (ca:=conK a b keep) (cb:=conD a b keep) (cc:=X) (l:=(conK a b keep).length) (d:=(conD a b keep).length) (x:=bN (conK a b keep) (conD a b keep) (conL a b) (aM a b) i) hw hwb (m:=(repE (aJ kk pp wd) n).length) (by omega) (by omega) (by omega)) (of_decide_eq_true rfl) ?_ ?_ ?_ ?_ ?_ ?_;(simp only[go_sem,seval,reduceCtorEq]);(first | rfl | simp only[go_sem,seval,reduceCtorEq]);(simp only[go_sem,seval,reduceCtorEq,vwOk]);(simp only[go_sem,seval,reduceCtorEq,idsL,idsA,List.contains_cons,Nat.reduceBEq,Bool.or_true,Bool.true_or]);(first | rfl | simp only[go_sem,seval,reduceCtorEq]))
  simp only[go_sem,seval,reduceCtorEq]
  (refine dU [12] false (sJ h.ring hw (xs:=X) (y:=E) (off:=bN (conK a b keep) (conD a b keep) (conL a b) (aM a b) i*wd) (eO htf _ _) hef hel (by omega) (by omega)) (of_decide_eq_true rfl) ?_ ?_ ?_ ?_ (of_decide_eq_true rfl) ?_;(focus (simp only[go_sem,seval,reduceCtorEq,hpl,hel,tE];done));(focus (simp only[go_sem,seval,reduceCtorEq];done));(focus (simp only[go_sem,seval,reduceCtorEq,hpl,hel,tE];done));(focus (simp only[go_sem,seval,reduceCtorEq];done)))
  simp only[go_sem,seval,reduceCtorEq]
  have htD:List.take (conL a b).length (aM a b)=aM a b:=List.take_of_length_le (by omega)
  (refine dU [16] false (oy (ds:=aM a b) (n:=i) hdb (by omega) (by omega)) (of_decide_eq_true rfl) ?_ ?_ ?_ ?_ (of_decide_eq_true rfl) ?_;(focus (simp only[go_sem,seval,reduceCtorEq,hjd,htD,hdl,hdl1];done));(focus (simp only[go_sem,seval,reduceCtorEq];done));(focus (simp only[go_sem,seval,reduceCtorEq,hjd,htD,hdl,hdl1];done));(focus (simp only[go_sem,seval,reduceCtorEq];done)))
  by_cases hlast:i+1<N
  ·have hde:decide (((i:Int)+1) % ab (aM a b)≠0)=true:=by
    rw[hpN,Int.emod_eq_of_lt (by omega) (by omega)]
    exact decide_eq_true (by omega)
   simp(disch:=omega) only[go_sem,seval,reduceCtorEq,hde]
   (refine NextS.drop (mkB 141 2787593144624031034157137155550548859027968) (i+1) (by omega) (by omega) (h1:= ?_) (h2:= ?_)<;>first | (simp only[go_sem,seval,reduceCtorEq,nz,na,n1,hnx,hnX];first | done | rfl) | rfl | skip)
  ·have hN:N=i+1:=by omega
   have hde:decide (((i:Int)+1) % ab (aM a b)≠0)=false:=by
    have:(i:Int)+1=N:=by omega
    rw[hpN,this,Int.emod_self]
    rfl
   rw[hN,hnx]at hfin
   rw[hnx]at hnl
   simp(disch:=omega) only[go_sem,seval,reduceCtorEq,hde,Bc e h,hfin,e]
   refine FnEnd.wk Wk.nogA ?_
   (refine FnEnd.mk (nb rfl) rfl (of_decide_eq_true rfl) ?_ ?_<;>try simp only[go_sem,seval,reduceCtorEq])
   all_goals rw[hzl,hnl]
end Go.Proofs.YtneocijmbnhblaaGreat
