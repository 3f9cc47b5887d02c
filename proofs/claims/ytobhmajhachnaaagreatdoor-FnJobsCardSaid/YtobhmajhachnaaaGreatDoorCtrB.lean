/-
 Contracts: a network contracted step by step, by the program. No condition.
-/
import Derived.Test.YtobhmajhachnaaaGreatDoorSemK
import Derived.Test.YtobhmajhachnaaaGreatDoorGenH
import Derived.Test.YtobhmajhachnaaaGreatDoorOrdB
set_option linter.unusedSimpArgs false
set_option linter.unusedVariables false
namespace Go.Proofs.YtobhmajhachnaaaGreatDoor
open Go.RowKit Go.Lift Plain
set_option maxRecDepth 100000
theorem sz6{L:List Int}(hn:L.Nodup)(h:Sem.L6 L):Sz 1048576 L:=by
 have hl:=len6 hn h;exact⟨by omega,fun x hx=>by have:=h x hx;unfold I64;omega⟩
theorem os6{N:Net}(h:Gen6 N):Sem.L6 N.os:=fun x hx=>Sem.Cb h x (Sem.vb h.ok x hx)
theorem JQ{r:Rg}{wd:Nat}(hr:ai r=true)(hw:af r=wd):TSz 1048576 (Sem.ew r wd):=
 Sem.wr hr hw (Sem.se hr hw (dim:=Sem.d6)) fun x hx=>by cases hx
theorem L7{a b:List Int}(ha:a.length≤1048576)(hb:b.length≤1048576)(hs:∀x∈a,x∈b):Does Tryz.prog 122 [.d (ints a),.d (ints b)] [] (.d (.bool true)) []:=by
 refine zS Tryz.func122 AO ?_;unfold tR;refine zT ?_;refine aA (a.length) (mkB 18 261200) (fun k=>[(9,.d (.int k))]) (fun k=>[]) (hr:=fun k hk=> ?_);unfold qL;by_cases hlt:k<a.length
 ·have d1:(k:Int)<a.length:=by omega
  have g:a[k]? =some a[k]:=zg hlt;have hh:has b a[k]=true:=aQ.2 (hs _ (List.getElem_mem hlt));simp(disch:=omega) only[go_sem,seval,reduceCtorEq,d1,g];(refine zC (dO (xs:=b) (x:=a[k]) (by omega)) ?_);simp(disch:=omega) only[go_sem,seval,reduceCtorEq,hh];exact Next.drop (mkB 18 261200) (by omega)
 ·have d1:¬(k:Int)<a.length:=by omega
  simp(disch:=omega) only[go_sem,seval,reduceCtorEq,d1];exact zX
theorem FinishTensor_o{N:Net}(hN:Gen6 N){wd:Nat}(hw:af N.rg=wd){t:Ten}(ht:Sem.TV N.rg wd Sem.d6 t)(t6:Sem.L6 t.labels)(ho:∀x∈N.os,x∈t.labels):
  Does Tryz.prog 90 [netA N,tenA t] [] (.tup [ownT 0 (Sem.finT N.rg wd t N.os),.d (.bool true)]) (stoF (Sem.finT N.rg wd t N.os)):=by
 have hr:=(ae.1 hN.ok).1;have hz:=hN.sz;have hosn:=Sem.yZ hN.ok;have o6:=os6 hN;have hsz:=Sem.wr hr hw ht t6;have hoz:=sz6 hosn o6;have hss:=JQ (r:=N.rg) hr hw;have hsT:=Sem.se hr hw (dim:=Sem.d6);obtain⟨c1,c2,c3⟩:=Sem.Ll hr hw ht hsT t6 (fun x hx=>by cases hx) N.os;obtain⟨tc,_⟩:=Sem.DW hr hw ht hsT N.os;have hcz:=Sem.wr hr hw tc c3;have hok:=Sem.uY hr hw ht t6;have hcok:=Sem.uY hr hw tc c3;have hK:∀x,x∈N.os↔x∈(conR N.rg wd t (Sem.ew N.rg wd) N.os).labels:=fun x=>by
  show x∈N.os↔x∈(conL t (Sem.ew N.rg wd)).filter (has N.os)
  rw[show conL t (Sem.ew N.rg wd)=t.labels from by show t.labels++([]:List Int).filter _=t.labels;simp,List.mem_filter,aQ];exact⟨fun hx=>⟨ho x hx,hx⟩,fun hx=>hx.2⟩
 have hpB:lU N.rg (conR N.rg wd t (Sem.ew N.rg wd) N.os) N.os=true:=by
  unfold lU;rw[hcok,Sem.BD tc.nd hosn fun x=>(hK x).symm]
  rfl
 have hpT:=yX hpB hw;have hp:=uG (kk:=N.k) (pp:=N.p) (nn:=N.n) hz.k hz.p hz.n hcz hoz;rw[show (⟨N.k,N.p,N.n⟩:Rg)=N.rg from rfl,hpT,hpB]at hp;have hS:=SumLabels_d (kk:=N.k) (pp:=N.p) (nn:=N.n) hr hw hsz hss hoz c1;have hnl:=hz.o.len;have htl:=hsz.l.len;unfold Sem.finT;generalize cq wd (conR N.rg wd t (Sem.ew N.rg wd) N.os) N.os=R at hp ⊢;rw[show (⟨N.k,N.p,N.n⟩:Rg)=N.rg from rfl]at hS;generalize conR N.rg wd t (Sem.ew N.rg wd) N.os=C at hp hS;have hok':al ⟨N.k,N.p,N.n⟩ t.labels t.dims t.data=true:=hok;refine zS Tryz.func90 qu ?_;unfold iu;refine zT ?_;(refine zC (di hz) ?_)
 simp only[go_sem,seval,reduceCtorEq,hN.ok];(refine zC (bM (t:=t) hz.k hz.p hz.n hsz.up) ?_);simp only[go_sem,seval,reduceCtorEq,hok'];(refine zC (L7 (a:=N.os) (b:=t.labels) hnl htl ho) ?_);refine zU ?_;(refine zD (hS) ?_);refine zU ?_;(refine zD (hp) ?_);refine zU ?_;exact zX
theorem FinishTensor_d{N:Net}(hN:Gen6 N){wd:Nat}(hw:af N.rg=wd){t:Ten}(ht:Sem.TV N.rg wd Sem.d6 t)(t6:Sem.L6 t.labels)(ho:∀x∈N.os,x∈t.labels):
  Does Tryz.prog 90 [netA N,tenA t] [] (.tup [tenA (Sem.finT N.rg wd t N.os),.d (.bool true)]) []:=oX (FinishTensor_o hN hw ht t6 ho)
def crN(N:Net)(wd:Nat)(F:List Int)(k:Nat):List Ten:=(ordS N F k).nums.map (Sem.tA N wd F k)
theorem CW(N:Net)(wd:Nat)(F:List Int):crN N wd F 0=N.ts:=by
 have hnums:(ordS N F 0).nums=List.range N.ts.length:=Sem.lY N.ts;unfold crN;rw[hnums];apply List.ext_getElem
 ·simp
 intro i h1 h2
 have hi:i<N.ts.length:=by simpa using h1
 simp [Sem.tA,zq,hi]
theorem IR{N:Net}{wd n:Nat}{F:List Int}(hok:bo N n F=true){k:Nat}(hk:k<n):
  crN N wd F (k+1)=((ordS N F k).nums.filter (Osd.off (stA F k) (stB F k))).map (Sem.tA N wd F k)++[conR N.rg wd (Sem.tA N wd F k (stA F k)) (Sem.tA N wd F k (stB F k)) ((ordS N F k).res N.os (stA F k) (stB F k))]:=by
 have hs:=mV hok hk;have ho:=(qA hok k (by omega)).ok;have hnums:(ordS N F (k+1)).nums=(ordS N F k).nums.filter (Osd.off (stA F k) (stB F k))++[N.ts.length+k]:=by rw[hs.nx];exact fU ho
 unfold crN;rw[hnums,List.map_append,List.map_cons,List.map_nil]
 congr 1
 ·refine List.map_congr_left fun i hi=> ?_
  have:=(eC.1 (List.mem_filter.1 hi).1).1;rw[ho.n]at this;rw[Sem.tA,if_neg (by omega)]
 ·rw[Sem.tA,if_pos rfl]
theorem BW{s:Osd}{i:Nat}(hi:i<s.nums.length):place (natI s.nums) s.nums[i]=i:=by
 have hq':i<(natI s.nums).length:=by rw[wZ];exact hi
 have:=ez hq' (dQ (rl (dL s)) hq')
 rwa [sv hi]at this
theorem vt(ts:List Ten):cB (rowD ts)=some (tcs ts):=xY _
theorem yM(ts:List Ten)(t:Ten):rowD ts++[.d (.sl t.labels.length (dv t.labels)),.d (.sl t.dims.length (dv t.dims)),.d (.sl t.data.length (dv t.data))]=rowD (ts++[t]):=by rw[Hb,H9];rfl
theorem BK:rowD []=[]:=rfl
theorem J0(gv M:List Nat)(ts:List Ten):cgL gv M (rowD ts)=rowD ts:=by
 rw[p6,rowD,List.map_map];exact List.map_congr_left fun x _=>rfl
attribute [go_sem] J0 vt
theorem yy{N:Net}(h:NSz 1048576 N):Does Tryz.prog 118 [netA N] [] (netA N) []:=Does.fzN (g:=true) (g':=true) (yz h)
set_option maxHeartbeats 3200000 in
theorem PartialNetwork_d{N:Net}(hN:Gen6 N){n:Nat}{F:List Int}{wd:Nat}(hw:af N.rg=wd)(hok:bo N n F=true)(hF:StpSz 1048576 n F){m:Nat}(hm:m≤n):
  Does Tryz.prog 88 [netA N,.d (stp n F),.d (.int m)] [] (.tup [netA ⟨N.k,N.p,N.n,crN N wd F m,N.os⟩,.d (.bool true)]) []:=by
 have hz:=hN.sz;have hr:=(ae.1 hN.ok).1;have hD:=dz N.ts;have hn:=hF.n;have hFl:=hF.l;have hol:=hz.o.len;have h12:=(ae.1 hN.ok).2.1;have hnN:=(bc.1 hok).2.1;have e0:=CW N wd F;have hz0:ordS N F 0=bb N.ts:=rfl;refine zS Tryz.func88 o9 ?_;unfold fK;refine zT ?_;(refine zC (rC hz hF) ?_);have c1:¬(m:Int)<0:=by omega
 have c2:¬(m:Int)>n:=by omega
 simp(disch:=omega) only[go_sem,seval,reduceCtorEq,hok,c1,c2];(refine zC (s7 hz hN.ok) ?_ (by simp only[go_sem,seval,reduceCtorEq,osR,lvS]));simp only[go_sem,seval,reduceCtorEq,osR,lvS];(refine zC (yy hz) ?_);simp(disch:=omega) only[go_sem,seval,reduceCtorEq,tens];generalize hT:(bA N.ts).1=T at*;refine⟨by omega, ?_⟩;simp only[Int.sub_zero,Int.toNat_natCast];have htkm:(F.take (m*2)).length=m*2:=by rw[List.length_take];omega
 refine aA (m) (mkB 109 324518553658426726774359928076416) (fun k=>[(42,.d (.int k))]) (fun k=>[(2,osB T (.d (ints N.os)) (.d (lvS (ordS N F k))) (.d (.int (ordS N F k).all.length))),(3,[.d (.int N.k),.d (.int N.p),.d (.int N.n),.d (tens (crN N wd F k)),.d (ints N.os)])]) (h1:=by first|(simp only[go_sem,seval,reduceCtorEq,nz,na,n1,hz0,e0,lvS];first|done|rfl)|rfl) (h2:=by first|(simp only[go_sem,seval,reduceCtorEq,nz,na,n1,hz0,e0,lvS];first|done|rfl)|rfl) (hr:=fun k hk=> ?_);unfold fF;by_cases hlt:k<m
 ·have d1:(k:Int)<m:=by omega
  have hs:=mV hok (show k<n by omega);have ho:=(qA hok k (by omega)).ok;have hab:=hs.at (qA hok k (by omega));obtain⟨A1,A6,Al⟩:=Sem.tA6 hN hok hw (show k≤n by omega) hab.1;obtain⟨B1,B6,Bl⟩:=Sem.tA6 hN hok hw (show k≤n by omega) hab.2;obtain⟨c1,c2,c3⟩:=Sem.Ll hr hw A1 B1 A6 B6 ((ordS N F k).res N.os (stA F k) (stB F k));have Az:=Sem.wr hr hw A1 A6;have Bz:=Sem.wr hr hw B1 B6;have hcn:=IR (wd:=wd) hok (show k<n by omega);have hrn:=(ho.res N.os (stA F k) (stB F k)).1;have hnx:=hs.nx;have ha:=hs.a;have hb:=hs.b;have hcl:(crN N wd F k).length=(ordS N F k).nums.length:=List.length_map _
  have hcg:∀q (hq:q<(ordS N F k).nums.length),(crN N wd F k)[q]? =some (Sem.tA N wd F k (ordS N F k).nums[q]):=fun q hq=>by simp [crN,hq]
  obtain⟨i,hi,hix⟩:=List.mem_iff_getElem.1 hs.ma;obtain⟨j,hj,hjx⟩:=List.mem_iff_getElem.1 hs.mb;have pi:=BW hi;have pj:=BW hj;rw[← hix, ← hjx]at hcn hnx c1 c2 c3 hrn;rw[← hix]at ha Az A1 A6;rw[← hjx]at hb Bz B1 B6;have hKz:=sz6 hrn (show Sem.L6 ((ordS N F k).res N.os (ordS N F k).nums[i] (ordS N F k).nums[j])from fun x hx=>by
   have:=(List.mem_filter.1 hx).1;rw[hix,hjx]at this;rcases bm.1 this with h|h
   ·rw[← Al]at h;rw[hix]at A6;exact A6 x h
   ·rw[← Bl]at h;rw[hjx]at B6;exact B6 x h)
  have gi:=fj (hcg i hi);have gj:=fj (hcg j hj);have hcp:=IU (kk:=N.k) (pp:=N.p) (nn:=N.n) hr hw Az Bz hKz c1;have g:List.take 2 (List.drop (k*2) (List.take (m*2) F))=[F.getD (k*2) 0,F.getD (k*2+1) 0]:=by
   rw[List.drop_take,List.take_take,Nat.min_eq_left (by omega)];exact s5 hF (show k<n by omega)
  rw[ha,hb]at g;have hnl:=lX ho;have dj1:(i:Int)<(crN N wd F k).length:=by omega
  have dj2:(j:Int)<(crN N wd F k).length:=by omega
  generalize hRd:conR N.rg wd (Sem.tA N wd F k (ordS N F k).nums[i]) (Sem.tA N wd F k (ordS N F k).nums[j]) ((ordS N F k).res N.os (ordS N F k).nums[i] (ordS N F k).nums[j])=R at*;rw[show (⟨N.k,N.p,N.n⟩:Rg)=N.rg from rfl,hRd]at hcp;generalize hS:ordS N F k=s at*;simp(disch:=omega) only[go_sem,seval,reduceCtorEq,d1,g,tens,DJ];refine⟨by omega, ?_⟩;(refine zD (bT (D:=T) (os:=N.os) (s:=s) (x:=s.nums[i]) hD ho (by omega)) ?_ (by simp only[go_sem,seval,reduceCtorEq,osP,lvS]));simp only[go_sem,seval,reduceCtorEq,pi]
  (refine zC (bT (D:=T) (os:=N.os) (s:=s) (x:=s.nums[j]) hD ho (by omega)) ?_ (by simp only[go_sem,seval,reduceCtorEq,osP,lvS]));simp(disch:=omega) only[go_sem,seval,reduceCtorEq,pj,gi,gj,dj1,dj2];refine⟨by omega,by omega, ?_⟩;(refine zD (eh (D:=T) (os:=N.os) (s:=s) (i:=i) (j:=j) hD ho (by omega) hol hi hj) ?_ (by simp only[go_sem,seval,reduceCtorEq,osP,lvS]));refine zU ?_;(refine zD (hcp) ?_);refine zV ?_;(refine bC (Wk.freeze 6 (nb rfl) rfl (bn) rfl rfl) ?_);(simp only[go_sem,seval,reduceCtorEq]);(refine bC (Wk.freeze 7 (nb rfl) rfl (bn) rfl rfl) ?_);(simp only[go_sem,seval,reduceCtorEq])
  (refine bC (Wk.freeze 8 (nb rfl) rfl (bn) rfl rfl) ?_);(simp only[go_sem,seval,reduceCtorEq]);(refine bC (Wk.nilE 16 3 _ _ rfl) ?_;simp only[go_sem,seval,reduceCtorEq])
  refine aA ((crN N wd F k).length) (mkB 109 316910232205418121115826782208) (fun q=>[(80,.d (.int q)),(16,.own 10 0 ((s.nums.take q).filter (Osd.off s.nums[i] s.nums[j])).length)]) (fun q=>[(10,rowD (((s.nums.take q).filter (Osd.off s.nums[i] s.nums[j])).map (Sem.tA N wd F k)))]) (h1:=by first|(simp only[go_sem,seval,reduceCtorEq,nz,na,n1,List.take_zero,List.filter_nil,List.map_nil,BK];first|done|rfl)|rfl) (h2:=by first|(simp only[go_sem,seval,reduceCtorEq,nz,na,n1,List.take_zero,List.filter_nil,List.map_nil,BK];first|done|rfl)|rfl) (hr:=fun q hq=> ?_);unfold fG
  have hfl:=dS s.nums q (Osd.off s.nums[i] s.nums[j]);by_cases hltq:q<s.nums.length
  ·have d2:(q:Int)<(crN N wd F k).length:=by omega
   have gq:=fj (hcg q hltq);have hop:=uc (dL s) hi hj hltq;simp(disch:=omega) only[go_sem,seval,reduceCtorEq,d2,gq];refine⟨by omega, ?_⟩;by_cases h1:q=i
   ·have e1:(q !=i)=false:=by simp [h1]
    have c1:=eJ q i;rw[e1]at c1;have e:=dy (p:=Osd.off s.nums[i] s.nums[j]) hltq (by rw[hop,e1];rfl);simp(disch:=omega) only[go_sem,seval,reduceCtorEq,c1];(refine Next.drop (mkB 109 316910232205418121115826782208) (by omega) (h1:= ?_) (h2:= ?_)<;>first|(simp only[go_sem,seval,reduceCtorEq,nz,na,n1,e];first|done|rfl)|rfl|skip)
   ·have e1:(q !=i)=true:=by simp [h1]
    have c1:=eJ q i;rw[e1]at c1;by_cases h2:q=j
    ·have e2:(q !=j)=false:=by simp [h2]
     have c2:=eJ q j;rw[e2]at c2;have e:=dy (p:=Osd.off s.nums[i] s.nums[j]) hltq (by rw[hop,e1,e2];rfl);simp(disch:=omega) only[go_sem,seval,reduceCtorEq,c1,c2];(refine Next.drop (mkB 109 316910232205418121115826782208) (by omega) (h1:= ?_) (h2:= ?_)<;>first|(simp only[go_sem,seval,reduceCtorEq,nz,na,n1,e];first|done|rfl)|rfl|skip)
    ·have e2:(q !=j)=true:=by simp [h2]
     have c2:=eJ q j;rw[e2]at c2;have e:=dR (p:=Osd.off s.nums[i] s.nums[j]) hltq (by rw[hop,e1,e2];rfl);have hrow:=yM (((s.nums.take q).filter (Osd.off s.nums[i] s.nums[j])).map (Sem.tA N wd F k)) (Sem.tA N wd F k s.nums[q]);have hrow2:((s.nums.take q).filter (Osd.off s.nums[i] s.nums[j])++[s.nums[q]]).map (Sem.tA N wd F k)=((s.nums.take q).filter (Osd.off s.nums[i] s.nums[j])).map (Sem.tA N wd F k)++[Sem.tA N wd F k s.nums[q]]:=by rw[List.map_append];rfl
     simp(disch:=omega) only[go_sem,seval,reduceCtorEq,c1,c2,List.length_map]
     (repeat (refine And.intro (by omega) ?_))
     (refine Next.drop (mkB 109 316910232205418121115826782208) (by omega) (h1:= ?_) (h2:= ?_)<;>first|(simp only[go_sem,seval,reduceCtorEq,nz,na,n1,e,List.length_append,hrow2,hrow];first|done|rfl)|rfl|skip)
  ·have d2:¬(q:Int)<(crN N wd F k).length:=by omega
   obtain rfl:q=s.nums.length:=by omega
   simp(disch:=omega) only[go_sem,seval,reduceCtorEq,d2,List.take_length,List.length_map];have hfl2:=List.length_filter_le (Osd.off s.nums[i] s.nums[j]) s.nums;have hrowR:=yM ((s.nums.filter (Osd.off s.nums[i] s.nums[j])).map (Sem.tA N wd F k)) R;rw[← hcn]at hrowR;have hlen:(s.nums.filter (Osd.off s.nums[i] s.nums[j])).length+1=(crN N wd F (k+1)).length:=by rw[hcn,List.length_append,List.length_map];rfl
   refine⟨by omega, ?_⟩;(refine am [2] [] false (zd rfl) ?_ _ ?_ (fJ (D:=T) (os:=N.os) (s:=s) hD ho (by omega) hol hi hj) ?_ ?_;(focus (simp only[go_sem,seval,reduceCtorEq,osR,lvS];done));(focus (simp only[go_sem,seval,reduceCtorEq,osR,lvS];done));(focus (first|rfl|(simp only[go_sem,seval,reduceCtorEq,osR,lvS];done))));simp(disch:=omega) only[go_sem,seval,reduceCtorEq,hrowR,hlen,osR,lvS];(refine Next.wk (Wk.freeze 10 (nb rfl) rfl (vt _) rfl rfl) ?_);(simp only[go_sem,seval,reduceCtorEq,hlen])
   (refine Next.drop (mkB 109 324518553658426726774359928076416) (by omega) (h1:= ?_) (h2:= ?_)<;>first|(simp only[go_sem,seval,reduceCtorEq,nz,na,n1,hnx,lvS,tens];first|done|rfl)|rfl|skip)
 ·have d1:¬(k:Int)<m:=by omega
  obtain rfl:k=m:=by omega
  simp(disch:=omega) only[go_sem,seval,reduceCtorEq,d1];exact zX
end Go.Proofs.YtobhmajhachnaaaGreatDoor
namespace Go.Proofs.YtobhmajhachnaaaGreatDoor.Sem
open Plain
theorem HE{N:Net}{wd:Nat}(h:netOk N=true)(hw:af N.rg=wd)(he:N.ts=[]):nvR N wd=ew N.rg wd:=by
 have hr:=(ae.1 h).1;have hno:∀x,x∉ar N:=fun x hx=>by
  obtain⟨t,ht,_⟩:=(uh h).1 hx;rw[he]at ht;cases ht
 have hos:N.os=[]:=List.eq_nil_iff_forall_not_mem.2 fun x hx=>hno x (vb h x hx)
 have hcl:aE N=[]:=List.eq_nil_iff_forall_not_mem.2 fun x hx=>hno x (List.mem_filter.1 hx).1
 obtain⟨h1,h2⟩:=HF h hw;refine Ao hr hw h1 (se hr hw) (show N.os=[]from hos) fun a ha=> ?_
 rw[h2 a ha,Ea,hcl,List.map_eq_nil_iff.2 he]
 rfl
end Go.Proofs.YtobhmajhachnaaaGreatDoor.Sem
namespace Go.Proofs.YtobhmajhachnaaaGreatDoor
open Go.RowKit Go.Lift Plain
set_option maxRecDepth 100000
theorem Contract_d{N:Net}(hN:Gen6 N){n:Nat}{F:List Int}{wd:Nat}(hw:af N.rg=wd)(hok:bo N n F=true)(hF:StpSz 1048576 n F):
  Does Tryz.prog 49 [netA N,.d (stp n F)] [] (.tup [tenA (Sem.nvR N wd),.d (.bool true)]) []:=by
 have hr:=(ae.1 hN.ok).1;have hr':ai ⟨N.k,N.p,N.n⟩=true:=hr;have hw':af ⟨N.k,N.p,N.n⟩=wd:=hw;have hwb:=wd6 hr hw;have hP:=PartialNetwork_d hN hw hok hF (Nat.le_refl n);have hn:=(bc.1 hok).2.1;by_cases h0:N.ts.length=0
 ·have he:N.ts=[]:=List.eq_nil_of_length_eq_zero h0
  have hc:crN N wd F n=[]:=by
   obtain rfl:n=0:=by omega
   rw[CW,he]
  rw[hc]at hP;rw[Sem.HE hN.ok hw he];have hs:=v6 hr' hw' hwb;rw[show (⟨N.k,N.p,N.n⟩:Rg)=N.rg from rfl]at hs;generalize Sem.ew N.rg wd=S at hs ⊢;have hl0:(([]:List Ten).length:Int)=0:=rfl;refine zS Tryz.func49 nv ?_;unfold i7;refine zT ?_;(refine zC (hP) ?_);simp only[go_sem,seval,reduceCtorEq,hl0];(refine zC (hs) ?_);refine zU ?_;exact zX
 ·obtain⟨h1,h2,h3,h4⟩:=Sem.BZ hok hw (by omega)
  obtain⟨t1,t2,t3⟩:=Sem.tA6 hN hok hw (Nat.le_refl n) (show N.ts.length+n-1<N.ts.length+n by omega);have hf:=FinishTensor_d hN hw t1 t2 h2;rw[h4]at hf;have hc:crN N wd F n=[Sem.tA N wd F n (N.ts.length+n-1)]:=by unfold crN;rw[h3];rfl
  rw[hc]at hP;generalize Sem.tA N wd F n (N.ts.length+n-1)=t at*;have g3:List.take 3 (tcs [t])=[ints t.labels,ints t.dims,ints t.data]:=rfl;have hl0:(([t]:List Ten).length:Int)=1:=rfl;have hl1:([t]:List Ten).length=1:=rfl;refine zS Tryz.func49 nv ?_;unfold i7;refine zT ?_;(refine zC (hP) ?_);simp(disch:=omega) only[go_sem,seval,reduceCtorEq,hl0,hl1,g3];(refine zD (hf) ?_);refine zU ?_;exact zX
end Go.Proofs.YtobhmajhachnaaaGreatDoor
