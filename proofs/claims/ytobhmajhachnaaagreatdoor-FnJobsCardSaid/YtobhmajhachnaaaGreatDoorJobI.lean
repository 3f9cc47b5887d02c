/-
 Contracts: a job written and read. No condition.
-/
import Derived.Test.YtobhmajhachnaaaGreatDoorEnvA
import Derived.Test.YtobhmajhachnaaaGreatDoorJobG
set_option linter.unusedSimpArgs false
set_option linter.unusedVariables false
namespace Go.Proofs.YtobhmajhachnaaaGreatDoor
open Go.RowKit Go.Lift Plain
set_option maxRecDepth 100000
theorem Hv{N:Net}{n:Nat}{F:List Int}(h:bo N n F=true)(hl:F.length=n*2):P18 F:=by
 obtain⟨h1,h2,h3⟩:=bc.1 h;have hn:=(ae.1 h1).2.1;have hok:=lV (bq h1);intro x hx;obtain⟨j,hj,rfl⟩:=List.getElem_of_mem hx;have hk:j / 2<n:=by omega
 have hf:=lW h3 hk;have ho:=oA hok (j / 2) (fS h3 (Nat.le_of_lt hk));obtain⟨a,b,e1,e2,m1,m2,_⟩:=kJ hf;have b1:=(eC.1 m1).1;have b2:=(eC.1 m2).1;rw[ho.n]at b1 b2;rcases Nat.mod_two_eq_zero_or_one j with e|e
 ·have:F[j]=a:=by rw[← e1,show j / 2*2=j by omega,ac hj]
  omega
 ·have:F[j]=b:=by rw[← e2,show j / 2*2+1=j by omega,ac hj]
  omega
def ny(r:Rg)(L F:List Int)(q:Int)(S:Ten):List ByteArray:=[be (texts L) ⟨#[32]⟩,be (texts F) ⟨#[32]⟩,cJ q,fmtT r S]
def nw(r:Rg)(L F:List Int)(q:Int)(S:Ten):ByteArray:=be (ny r L F q S++[⟨#[]⟩]) ⟨#[10]⟩
section
variable {N : Net} {wd n : Nat} {L F : List Int}
theorem JobC.pL(h:JobC N wd L n F):P18 L:=fun x hx=>by
 have:=Sem.Cb h.six x (nc h.six (h.cls.mem x hx)).1;omega
theorem JobC.pF(h:JobC N wd L n F):P18 F:=Hv h.ord h.fsz.l
theorem JobC.nF(h:JobC N wd L n F):n≤11:=by
 have h2:=(bc.1 h.ord).2.1;have h3:=(ae.1 h.six.ok).2.1;omega
theorem JobC.okS(h:JobC N wd L n F){S:Ten}(hS:Sem.TV N.rg wd Sem.d6 S)(hl:S.labels=N.os):al N.rg S.labels S.dims S.data=true:=
 Sem.uY (ae.1 h.six.ok).1 h.hw hS (by rw[hl];exact os6 h.six)
theorem HZ{c:UInt8}(hc:c.toNat<32){xs:List Int}(hp:P18 xs):c∉(be (texts xs) ⟨#[32]⟩).data.toList:=
 oP (fun hm=>by
  have e:c=32:=by simpa using hm
  subst e;exact absurd hc (by decide)) (pY hp (.inl (by omega)))
theorem JobC.lns(h:JobC N wd L n F){q:Nat}(hq:q≤Sem.pN Sem.d6 L){S:Ten}(hS:Sem.TV N.rg wd Sem.d6 S)(hl:S.labels=N.os):
  (∀x∈ny N.rg L F q S,(10:UInt8)∉x.data.toList)∧∀x∈ny N.rg L F q S++[⟨#[]⟩],x.size≤1000000:=by
 have hb:=h.bd;obtain⟨wd',n',hw⟩:=wdT (h.okS hS hl);have s1:=fL (sep:=⟨#[32]⟩) (Nat.le_refl 1) h.pL.pos;have s2:=fL (sep:=⟨#[32]⟩) (Nat.le_refl 1) h.pF.pos;have s3:=fY (n:=(q:Int)) (by omega);have s4:=hw.sz;have l4:=h.l4;have nF:=h.nF;have hFl:=h.fsz.l;unfold ny;rw[hw.txt];refine⟨fun x hx=> ?_,fun x hx=> ?_⟩
 ·simp only[List.mem_cons,List.not_mem_nil,or_false]at hx
  rcases hx with rfl|rfl|rfl|rfl
  ·exact HZ (by decide) h.pL
  ·exact HZ (by decide) h.pF
  ·exact Cq (by omega) (.inl (by decide))
  ·exact oP (by decide) (hw.out (by decide))
 ·simp only[List.mem_cons,List.mem_append,List.not_mem_nil,or_false]at hx
  rcases hx with (rfl|rfl|rfl|rfl)|rfl
  ·omega
  ·omega
  ·omega
  ·exact s4
  ·exact Nat.zero_le _
theorem JobC.tsz(h:JobC N wd L n F){q:Nat}(hq:q≤Sem.pN Sem.d6 L){S:Ten}(hS:Sem.TV N.rg wd Sem.d6 S)(hl:S.labels=N.os):(nw N.rg L F q S).size≤5000005:=by
 have:=n4 (sep:=⟨#[10]⟩) (c:=1000000) (Nat.le_refl 1) 5 (ny N.rg L F q S++[⟨#[]⟩]) rfl (h.lns hq hS hl).2;unfold nw;omega
set_option maxHeartbeats 1600000 in
theorem FormatJob_d(h:JobC N wd L n F){q:Nat}(hq:q≤Sem.pN Sem.d6 L){S:Ten}(hS:Sem.TV N.rg wd Sem.d6 S)(hl:S.labels=N.os):
  Does Tryz.prog 13 [netA N,jobA L n F q S] [] (.d (.str (nw N.rg L F q S))) []:=by
 have hr:=(ae.1 h.six.ok).1;obtain⟨i1,i2,i3⟩:=jf hr;have hjo:=JobOk_d h hq hS hl;have hts:=h.szS hS hl;have hft:=nA (kk:=N.k) (pp:=N.p) (nn:=N.n) (t:=S) i1 i2 i3 hts;have hfL:=FormatInts_d (xs:=L) (by have:=h.l4;omega) h.pL.pos;have hFl:=h.fsz.l;have nF:=h.nF;have hfF:=FormatInts_d (xs:=F) (by omega) h.pF.pos;have hb:=h.bd;have hfi:=fx (n:=(q:Int)) ⟨by omega,by omega⟩;have htz:=h.tsz hq hS hl;have hjn:=w7 (xs:=ny N.rg L F q S++[⟨#[]⟩]) (sep:=⟨#[10]⟩) (by show (5:Nat)≤_;omega) (by show (nw N.rg L F q S).size≤_;omega);rw[show be (ny N.rg L F q S++[⟨#[]⟩]) ⟨#[10]⟩=nw N.rg L F q S from rfl]at hjn
 have hcut:=fun k (hk:k<n)=>s5 h.fsz hk
 generalize nw N.rg L F q S=T at*;unfold ny at hjn;simp only[strs,dxv,List.map_cons,List.map_nil,Zl,zn,Nat.reduceAdd,List.cons_append,List.nil_append]at hjn;rw[show N.rg=⟨N.k,N.p,N.n⟩from rfl]at hjn;unfold jobA at*;simp only[netA,aY,tenA]at*;refine zS Tryz.func13 uC ?_;unfold mJ;refine zT ?_;(refine zC (hjo) ?_);refine zU ?_;(refine bC (Wk.nilE 5 1 _ _ rfl) ?_;simp only[go_sem,seval,reduceCtorEq])
 refine aA (n) (mkB 44 268304512) (fun k=>[(5,.own 2 0 (k*2)),(16,.d (.int k))]) (fun k=>[(2,iv (F.take (k*2)))]) (h1:=by first|(simp only[go_sem,seval,reduceCtorEq,nz,na,n1,Nat.zero_mul,List.take_zero];first|done|rfl)|rfl) (h2:=by first|(simp only[go_sem,seval,reduceCtorEq,nz,na,n1,Nat.zero_mul,List.take_zero];first|done|rfl)|rfl) (hr:=fun k hk=> ?_);unfold l8;by_cases hlt:k<n
 ·have d1:(k:Int)<n:=by omega
  have g:=hcut k hlt;have st:F.take (k*2+2)=F.take (k*2)++(F.drop (k*2)).take 2:=List.take_add;have em:(k+1)*2=k*2+2:=Nat.succ_mul k 2;have hlx:(F.take (k*2)).length=k*2:=by rw[List.length_take];omega
  rw[g]at st;generalize F.getD (k*2) 0=x at*;generalize F.getD (k*2+1) 0=y at*;have l2:[x,y].length=2:=rfl;simp(disch:=omega) only[go_sem,seval,reduceCtorEq,d1,g,l2,List.getElem?_cons_zero,List.getElem?_cons_succ,Option.map_some];have e2:iv (F.take (k*2))++[.d (.int x),.d (.int y)]=iv (F.take (k*2+2)):=by rw[st];simp [iv]
  simp only[e2]
  (repeat (refine And.intro (by omega) ?_))
  (refine Next.drop (mkB 44 268304512) (by omega) (h1:= ?_) (h2:= ?_)<;>first|(simp only[go_sem,seval,reduceCtorEq,nz,na,n1,em];first|done|rfl)|rfl|skip)
 ·have d1:¬(k:Int)<n:=by omega
  have hk:k=n:=by omega
  subst hk;have eF:ints F=.sl (k*2) (dv F):=by unfold ints;rw[hFl]
  have tF:F.take (k*2)=F:=zt (by omega);rw[eF]at hfF;simp(disch:=omega) only[go_sem,seval,reduceCtorEq,d1,tF];(refine zD (hfL) ?_);refine zU ?_;(refine zD (hfF) ?_ (by simp only[go_sem,seval,reduceCtorEq,tF]));refine zU ?_;(refine zD (hfi) ?_);refine zU ?_;(refine zC (hft) ?_);refine zU ?_;(refine zC (hjn) ?_);refine zU ?_;exact zX
set_option maxHeartbeats 1600000 in
theorem ParseJob_d(h:JobC N wd L n F){q:Nat}(hq:q≤Sem.pN Sem.d6 L){S:Ten}(hS:Sem.TV N.rg wd Sem.d6 S)(hl:S.labels=N.os):
  Does Tryz.prog 12 [netA N,.d (.str (nw N.rg L F q S))] [] (.tup [jobA L n F q S,.d (.bool true)]) []:=by
 have hr:=(ae.1 h.six.ok).1;obtain⟨i1,i2,i3⟩:=jf hr;have hjo:=JobOk_d h hq hS hl;have hfj:=FormatJob_d h hq hS hl;have hts:=h.szS hS hl;have hok:=h.okS hS hl;have hpt:=ParseTensor_d (kk:=N.k) (pp:=N.p) (nn:=N.n) (t:=S) i1 i2 i3 hok hts;have hpL:=ParseInts_d (xs:=L) (by have:=h.l4;omega) h.pL;have hFl:=h.fsz.l;have nF:=h.nF;have hpF:=ParseInts_d (xs:=F) (by omega) h.pF;have hb:=h.bd;have hpi:=ParseInt_d (n:=(q:Int)) ⟨by omega,by omega⟩;have htz:=h.tsz hq hS hl;obtain⟨o1,o2⟩:=h.lns hq hS hl
 have hsl:=SplitLines_d (ls:=ny N.rg L F q S) (by simp [ny]) o1 (by show (nw N.rg L F q S).size<_;omega) (by show (4:Nat)≤_;omega);rw[show be (ny N.rg L F q S++[⟨#[]⟩]) ⟨#[10]⟩=nw N.rg L F q S from rfl]at hsl;have hnk:=di h.six.sz;rw[h.six.ok]at hnk;have gx:=rZ (nw N.rg L F q S);clear o1 o2 htz;generalize nw N.rg L F q S=T at*;unfold ny at hsl;rw[show N.rg=⟨N.k,N.p,N.n⟩from rfl]at hsl;simp only[strs,dxv,List.map_cons,List.map_nil,Zl,zn,Nat.reduceAdd]at hsl;unfold jobA at*;simp only[netA,aY,tenA]at*;refine zS Tryz.func12 vN ?_;unfold o5;refine zT ?_;(refine zC (hsl) ?_);refine zU ?_
 (refine zC (hnk) ?_);refine zU ?_;(refine zC (hpL) ?_);refine zU ?_;(refine zC (hpF) ?_);refine zU ?_;(refine zC (hpi) ?_);refine zU ?_;have c0:((F.length:Int).tmod 2 !=0)=false:=by
  rw[hFl,Int.tmod_eq_emod_of_nonneg (by omega)]
  simp
 (refine zD (hpt) ?_);simp only[go_sem,seval,reduceCtorEq,c0];(refine bC (Wk.nilS 3 1 2 _ _ _ rfl rfl) ?_;simp only[go_sem,seval,reduceCtorEq])
 refine aA (n) (mkB 117 20282399932245113506913853636608) (fun k=>[(16,.d (.int (k*2:Nat)))]) (fun k=>[(3,[.d (ints L),.own 4 0 k,.d (.int q),.d (ints S.labels),.d (ints S.dims),.d (ints S.data)]),(4,iv (F.take (k*2)))]) (h1:=by first|(simp only[go_sem,seval,reduceCtorEq,nz,na,n1,Nat.zero_mul,List.take_zero];first|done|rfl)|rfl) (h2:=by first|(simp only[go_sem,seval,reduceCtorEq,nz,na,n1,Nat.zero_mul,List.take_zero];first|done|rfl)|rfl) (hr:=fun k hk=> ?_);unfold mo;by_cases hlt:k<n
 ·have d1:((k*2:Nat):Int)<F.length:=by omega
  have g0:F[k*2]? =some (F.getD (k*2) 0):=by rw[ac (by omega)];exact zg (by omega)
  have g1:F[k*2+1]? =some (F.getD (k*2+1) 0):=by rw[ac (by omega)];exact zg (by omega)
  have g:=s5 h.fsz hlt;have st:F.take (k*2+2)=F.take (k*2)++(F.drop (k*2)).take 2:=List.take_add;have em:(k+1)*2=k*2+2:=Nat.succ_mul k 2;have hlx:(F.take (k*2)).length=k*2:=by rw[List.length_take];omega
  rw[g]at st;generalize F.getD (k*2) 0=x at*;generalize F.getD (k*2+1) 0=y at*;have e2:iv (F.take (k*2))++[.d (.int x),.d (.int y)]=iv (F.take (k*2+2)):=by rw[st];simp [iv]
  have d2:((k*2:Nat):Int)+1=(k*2+1:Nat):=by omega
  have d3:((k*2:Nat):Int)+2=(k*2+2:Nat):=by omega
  simp(disch:=omega) only[go_sem,seval,reduceCtorEq,d1,d2,d3,g0,g1,Option.map_some,e2]
  (repeat (refine And.intro (by omega) ?_))
  (refine Next.drop (mkB 117 20282399932245113506913853636608) (by omega) (h1:= ?_) (h2:= ?_)<;>first|(simp only[go_sem,seval,reduceCtorEq,nz,na,n1,em];first|done|rfl)|rfl|skip)
 ·have d1:¬((k*2:Nat):Int)<F.length:=by omega
  have hk:k=n:=by omega
  subst hk;have tF:F.take (k*2)=F:=zt (by omega);simp(disch:=omega) only[go_sem,seval,reduceCtorEq,d1,tF];(refine zC (hjo) ?_ (by simp only[go_sem,seval,reduceCtorEq,tF]));refine zU ?_;(refine zC (hfj) ?_ (by simp only[go_sem,seval,reduceCtorEq,tF]));simp only[go_sem,seval,reduceCtorEq,gx];(refine FnEnd.wk (Wk.freeze 4 (nb rfl) rfl (bn) rfl rfl) ?_);(simp only[go_sem,seval,reduceCtorEq,tF]);exact zX
end
set_option maxRecDepth 100000
set_option maxHeartbeats 3200000 in
theorem FE{b:List Int}(hl:b.length≤9223372036854775807)(hwf:∀x∈b,0≤x∧x≤255):
  Does Tryz.prog 3 [.d (bytes b)] [] (.d (.bool true)) []:=by
 by_cases h0:(b.length:Int)>1048576
 ·refine zS Tryz.func3 qD ?_;unfold lK
  unfold bytes;refine zT ?_;simp(disch:=omega) only[go_sem,seval,reduceCtorEq,h0];exact zX
 have hb:CodeOk b:=⟨by omega,hwf⟩;obtain⟨kk,pp,nn,hr,hring⟩:=MakeRing_d hb (m:=0) (by omega);obtain⟨N,⟨hN,hm5,hrg⟩,hnet⟩:=MakeNetwork_d hb (m:=10) (by omega) hr (most:=4) (by omega);obtain⟨F,⟨hord,hF⟩,hmo⟩:=MakeOrder_d hb (m:=100) (by omega) hN;obtain⟨xs,hperm,hmc⟩:=MakeClosed_d hb (m:=110) (by omega) hN;obtain⟨s0,⟨hs0,hs1⟩,hms⟩:=MakeSize_d hb (n:=120) (by omega) (lo:=0) (hi:=9) (by omega);obtain⟨s,rfl⟩:=Int.eq_ofNat_of_zero_le hs0;have hz:=hN.sz;have hwb:=cm hr;obtain⟨wd,hw⟩:=Int.eq_ofNat_of_zero_le (a:=af ⟨kk,pp,nn⟩) (by omega);rw[← hrg]at hw
 obtain⟨L,hL1,hL2⟩:∃L:List Int,min (xs.length:Int) 3=(L.length:Nat)∧xs.take L.length=L:=
  ⟨xs.take (min xs.length 3),by rw[List.length_take];omega,by rw[List.length_take,show min (min xs.length 3) xs.length=min xs.length 3 by omega]⟩
 have hLs:L.Sublist xs:=hL2 ▸ List.take_sublist _ _;have hnd:xs.Nodup:=hperm.nodup_iff.2 (by
  have hll:an N=aX (labP N.ts) 100:=by simp [an,hN.ok]
  rw[show aE N=wol (an N) N.os from rfl,hll]
  exact(Sem.fr N).filter _)
 have hJ:JobC N wd L (N.ts.length-1) F:=⟨hN,hw,⟨hN.ok,hz,fun x hx=>hperm.mem_iff.1 (hLs.subset hx),hnd.sublist hLs⟩,by omega,hord,hF⟩;generalize N.ts.length-1=n at*;have hbd:=hJ.bd;have hsc:=dw hz hJ.szL;rw[hJ.cnt]at hsc;have hsj:=StartJob_d hJ;obtain⟨q,hq⟩:∃q,q=min (0+s) (Sem.pN Sem.d6 L):=⟨_,rfl⟩;have hqM:q≤Sem.pN Sem.d6 L:=by omega
 have hr1:=RunJob_d hJ (q:=0) (s:=s) (by omega) (by omega);rw[← hq]at hr1;have hfj:=FormatJob_d hJ hqM (hJ.sum q).1 (hJ.sum q).2;have hpj:=ParseJob_d hJ hqM (hJ.sum q).1 (hJ.sum q).2;have hr2:=RunJob_d hJ (q:=q) (s:=Sem.pN Sem.d6 L) hqM (by omega);rw[show min (q+Sem.pN Sem.d6 L) (Sem.pN Sem.d6 L)=Sem.pN Sem.d6 L by omega]at hr2;have hr3:=RunJob_d hJ (q:=0) (s:=Sem.pN Sem.d6 L) (by omega) (by omega);rw[show min (0+Sem.pN Sem.d6 L) (Sem.pN Sem.d6 L)=Sem.pN Sem.d6 L by omega]at hr3;have hno:=StepJob_no hJ;have hs1:=StepJob_d hJ (k:=0) (by omega)
 have hj1:=JobOk_d hJ (q:=1) (by omega) (hJ.sum 1).1 (hJ.sum 1).2;have hW:=Jp hN hw;have eV:Sem.sumK N wd L (Sem.pN Sem.d6 L)=Sem.nvR N wd:=Sem.GB hw hN hJ.cls.nd hJ.mem hJ.sl;have hsm:=yJ (Np hN hw);have hsq:=yJ (hJ.szS (hJ.sum q).1 (hJ.sum q).2);have hst:=D9 hF;have hin:=qf (xs:=L) (by have:=hJ.l4;omega);rw[eV]at hr2 hr3 hno;simp only[Nat.zero_add]at hs1;generalize Sem.sumK N wd L 0=S0 at*;generalize Sem.sumK N wd L 1=S1 at*;generalize Sem.sumK N wd L q=Sq at*;generalize Sem.nvR N wd=V at*;generalize nw N.rg L F q Sq=T at*;have hM1:=hbd.1;clear eV hbd;generalize Sem.pN Sem.d6 L=M at*
 have c1:((M:Int)<1)=False:=eq_false (by omega);have c2:((M:Int) !=M)=false:=by simp
 have c3:((q:Int) !=q)=false:=by simp
 have hxl:=hperm.length_eq;unfold bytes at*;unfold jobZ at hno;simp only[jobA,tenA,Int.natCast_zero,Int.natCast_one]at*;refine zS Tryz.func3 qD ?_;unfold lK;refine zT ?_;simp(disch:=omega) only[go_sem,seval,reduceCtorEq,h0];(refine zC (hring) ?_);refine zU ?_;(refine zC (hnet) ?_);simp only[go_sem,seval,reduceCtorEq,netA];(refine zC (hmo) ?_ (by simp only[go_sem,seval,reduceCtorEq,netA]));refine zU ?_;(refine zC (hmc) ?_ (by simp only[go_sem,seval,reduceCtorEq,netA]));simp(disch:=omega) only[go_sem,seval,reduceCtorEq,hL1,Int.sub_zero,Int.toNat_natCast,hL2];refine⟨by omega, ?_⟩
 (refine zC (hsc) ?_ (by simp only[go_sem,seval,reduceCtorEq,netA]));refine zU ?_;(refine zC (hsj) ?_ (by simp only[go_sem,seval,reduceCtorEq,netA]));refine zU ?_;(refine zD (hms) ?_);refine zU ?_;(refine zD (hr1) ?_ (by simp only[go_sem,seval,reduceCtorEq,netA]));refine zU ?_;(refine zD (hfj) ?_ (by simp only[go_sem,seval,reduceCtorEq,netA]));refine zU ?_;(refine zD (hpj) ?_ (by simp only[go_sem,seval,reduceCtorEq,netA]));refine zU ?_;(refine zC (hr2) ?_ (by simp only[go_sem,seval,reduceCtorEq,netA]));refine zU ?_;(refine zC (hr3) ?_ (by simp only[go_sem,seval,reduceCtorEq,netA]))
 simp only[go_sem,seval,reduceCtorEq,c1];(refine zD (hW) ?_ (by simp only[go_sem,seval,reduceCtorEq,netA]));refine zU ?_;(refine zD (hsm) ?_);refine zU ?_;(refine zD (hsm) ?_);simp only[go_sem,seval,reduceCtorEq,c2,c3];(refine zC (hsq) ?_);refine zU ?_;(refine zC (hno) ?_ (by simp only[go_sem,seval,reduceCtorEq,netA]));refine zU ?_;(refine zC (hs1) ?_ (by simp only[go_sem,seval,reduceCtorEq,netA]));refine zU ?_;(refine zC (hj1) ?_ (by simp only[go_sem,seval,reduceCtorEq,netA]));refine zU ?_;(refine zC (hst) ?_);refine zU ?_;(refine zC (hin) ?_);refine zU ?_;exact zX
theorem I1(W:World)(hA:∀b l,(b,l)∈qc→∃cur T f,l cur.toList∧W.heap[b]? =some (.cells cur T f)){v0:Value}{b:List Int}(w0:BytIn W v0 b):
  Calls Tryz.prog 3 #[v0] W (RetV W (.bool true)):=by
 refine Does.callsT (FE w0.len w0.wf) W [_] hA ?_;simp only[RelL];exact⟨_,_,rfl,w0.rel,rfl⟩
end Go.Proofs.YtobhmajhachnaaaGreatDoor
