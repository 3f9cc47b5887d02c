/-
 Contracts: the value of a network by its definition, by the reference. No condition.
-/
import Derived.Test.YtobhmajhachnaaaGreatDoorMgJobsB
import Derived.Test.YtobhmajhachnaaaGreatDoorStkA
import Derived.Test.YtobhmajhachnaaaGreatDoorSemK
import Derived.Test.YtobhmajhachnaaaGreatDoorGenH
set_option linter.unusedSimpArgs false
set_option linter.unusedVariables false
namespace Go.Proofs.YtobhmajhachnaaaGreatDoor
open Go.RowKit Go.Lift Plain
set_option maxRecDepth 100000
section
variable {N : Net}
def labD(N:Net):List Int:=(Sem.ar N).map (dimN N.ts)
theorem AH(h:netOk N=true):∀d∈labD N,1≤d∧d≤8:=fun d hd=>by
 obtain⟨x,hx,rfl⟩:=List.mem_map.1 hd;have h1:=(Sem.eW h).1 hx;have h2:=iL (bq h) x;omega
theorem EA(N:Net){q:Nat}(hq:q<(Sem.ar N).length):(labD N).getD q 0=dimN N.ts (Sem.ar N)[q]:=by
 rw[ac (by simpa [labD]using hq)];simp [labD]
theorem HI(h:netOk N=true){t:Ten}(ht:t∈N.ts){n:Nat}(hp:aa t.dims=n):InOk t.labels t.dims (Sem.ar N) (labD N) n:=by
 have hok:=(ae.1 h).2.2.1 t ht;obtain⟨wd,n',e1,e2,e3,e4,e5,e6,e7,e8,e9,e10⟩:=ct hok;refine⟨e10,hp,by omega,Sem.fr N,fun x hx=>Sem.iW h ht hx,by simp [labD],AH h,fun q hq hm=> ?_⟩;rw[EA N hq, ← jp h ht hm]
 rfl
theorem K5(h:netOk N=true):∃n:Nat,InOk N.os (N.os.map (dimN N.ts)) (Sem.ar N) (labD N) n:=by
 have hax:=Sem.Hl h;have h0:=(ae.1 h).2.2.2.2;have hp0:=aW (N.os.map (dimN N.ts)) fun d hd=>(hax.dim d hd).1
 rcases dd N.os (N.os.map (dimN N.ts))with h1|⟨_,h2,_,_⟩
 ·exact absurd h1 h0
 ·refine⟨(aa (N.os.map (dimN N.ts))).toNat,hax,by omega,by omega,Sem.fr N,Sem.vb h,by simp [labD],AH h,fun q hq hm=> ?_⟩
  rw[EA N hq];obtain⟨k,hk,e1,e2,_⟩:=eU hm;have:ao ⟨N.os,N.os.map (dimN N.ts),[]⟩ (Sem.ar N)[q]=(N.os.map (dimN N.ts)).getD k 0:=by
   unfold ao;simp only;rw[e1];rfl
  rw[this,ac (by simpa using hk),List.getElem_map,e2]
theorem InOk.offs{ls ds L D:List Int}{n:Nat}(h:InOk ls ds L D n)(i:Nat):offs ds (ls.map (atL L (ab D i)))=bK ls ds L D i:=by
 have h1:=ri h.ax.len (bE h.ax) h.nodup h.sup (xs:=ab D i) (by simp [aJ,h.dl]);rw[← h1]
 exact(h.off i).1
theorem Ih{ls ds is:List Int}(h:axOk ls ds)(hi:vj ds is):Sz 1099511627776 is:=by
 have hl:=hi.1;have h12:=h.1;have hdl:=h.len;refine⟨by omega,fun x hx=> ?_⟩;obtain⟨q,hq,rfl⟩:=List.getElem_of_mem hx;have hq':q<ds.length:=by omega
 have h1:=hi.2 q hq';have h2:=h.dim ds[q] (List.getElem_mem hq');unfold xC at h1;rw[ac hq,ac hq']at h1;unfold I64;omega
def wgtT(N:Net)(wd k j:Nat):List Int:=(N.ts.take j).foldl (fun acc t=>mulE N.rg acc (cutE t.data wd (bK t.labels t.dims (Sem.ar N) (labD N) k))) (oneE N.rg wd)
theorem yD{wd k j:Nat}(hj:j<N.ts.length):wgtT N wd k (j+1)=mulE N.rg (wgtT N wd k j) (cutE N.ts[j].data wd (bK N.ts[j].labels N.ts[j].dims (Sem.ar N) (labD N) k)):=by
 unfold wgtT;rw[ba hj,List.foldl_append]
 rfl
theorem wn(wd k:Nat):wgtT N wd k N.ts.length=Sem.wgtI N wd k:=by
 unfold wgtT;rw[List.take_length]
 rfl
theorem vT(h:netOk N=true){wd:Nat}(hw:af N.rg=wd)(k:Nat):∀j,j≤N.ts.length→(wgtT N wd k j).length=wd∧fits N.rg (wgtT N wd k j)
 |0,_=>⟨gC _ _,(El.unit (ae.1 h).1 hw).fit⟩
 |j+1,hj=>by
  obtain⟨h1,h2⟩:=vT h hw k j (by omega);have hmem:N.ts[j]∈N.ts:=List.getElem_mem (by omega);obtain⟨wd',n,e1,e2,e3,e4,e5,e6,e7,e8,e9,e10⟩:=ct ((ae.1 h).2.2.1 _ hmem);obtain rfl:wd=wd':=by omega
  have hi:=HI h hmem e2;have hl:=jr e7 (hi.off k).2;rw[yD (by omega)];exact⟨(fV e9 hw h2 (eY e8 _ _) h1 hl).1,ue e9 hw h2 (eY e8 _ _) h1 hl⟩
end
theorem Kk{kk pp nn:Int}{wd:Nat}(hr:ai ⟨kk,pp,nn⟩=true)(hw:af ⟨kk,pp,nn⟩=wd)(h1:1≤wd∧wd≤6):Does Tryz.prog 116 [aY kk pp nn] [] (.d (ints (oneE ⟨kk,pp,nn⟩ wd))) []:=by
 have h:=zu hr hw h1;have hl:=gC ⟨kk,pp,nn⟩ wd;generalize oneE ⟨kk,pp,nn⟩ wd=e at*;subst hl;exact h.fzI
theorem Kj{x wd:Nat}{kk pp nn:Int}{t:Ten}(hw:af ⟨kk,pp,nn⟩=(wd:Int))(h1:wd≤6)(hx:x*wd+wd≤t.data.length)(hx2:x≤1099511627776)(h:t.data.length≤1099511627776):
  Does Tryz.prog 86 [aY kk pp nn,tenA t,.d (.int x)] [] (.d (ints (cutE t.data wd x))) []:=by
 have h:=Cj hw h1 hx hx2 h;have hl:=cK hx;unfold cutE;generalize (t.data.drop (x*wd)).take wd=e at*;rw[← hl]at h;exact h.fzI
theorem Kl{kk pp nn:Int}{x y:List Int}{wd:Nat}(hr:ai ⟨kk,pp,nn⟩=true)(hw:af ⟨kk,pp,nn⟩=wd)(hx:fits ⟨kk,pp,nn⟩ x)(hy:fits ⟨kk,pp,nn⟩ y)(lx:x.length=wd)(ly:y.length=wd):
  Does Tryz.prog 117 [aY kk pp nn,.d (ints x),.d (ints y)] [] (.d (ints (mulE ⟨kk,pp,nn⟩ x y))) []:=by
 have h:=I6 hr hw hx hy lx ly;have hl:=(fV hr hw hx hy lx ly).1;generalize mulE ⟨kk,pp,nn⟩ x y=e at*;rw[← hl]at h;exact h.fzI
theorem FG{ds:List Int}{n:Int}(hd:∀d∈ds,1≤d∧d≤1000)(hl:ds.length≤1048576)(h0:0≤n∧n≤1152921504606846976):
  Does Tryz.prog 82 [.d (ints ds),.d (.int n)] [] (.d (ints (ab ds n))) []:=by
 have h:=Ds hd hl h0;have hl:=aJ ds n;generalize ab ds n=e at*;rw[← hl]at h;exact h.fzI
theorem Cg{ts:List Ten}{L:List Int}(h:ts.length≤1048576)(ht:∀t∈ts,TSz 1048576 t)(hax:cQ ts)(hL:L.length≤1048576):
  Does Tryz.prog 79 [.d (tens ts),.d (ints L)] [] (.d (ints (L.map (dimN ts)))) []:=by
 have h:=zk h ht hax hL;have hl:(L.map (dimN ts)).length=L.length:=List.length_map _;generalize L.map (dimN ts)=e at*;rw[← hl]at h;exact h.fzI
theorem Dr{ts:List Ten}(h:ts.length≤1048576)(ht:∀t∈ts,TSz 1048576 t)(hax:cQ ts):Does Tryz.prog 58 [.d (tens ts)] [] (.d (ints (aX (labP ts) 100))) []:=(oG h ht hax).fzI
set_option maxHeartbeats 1600000 in
theorem Cf{N:Net}(hok:netOk N=true)(hz:NSz 1048576 N){wd:Nat}(hw:af N.rg=wd)(k:Nat):
  Does Tryz.prog 87 [netA N,.d (ints (Sem.ar N)),.d (ints (ab (labD N) k))] [] (.d (ints (Sem.wgtI N wd k))) []:=by
 have hr:=(ae.1 hok).1;have hr':ai ⟨N.k,N.p,N.n⟩=true:=hr;have hw':af ⟨N.k,N.p,N.n⟩=wd:=hw;have hwb:=wd6 hr hw;have hnl:=hz.l;have hLl:(Sem.ar N).length≤100:=fQ _ _;have hX:(ab (labD N) k).length=(Sem.ar N).length:=by rw[aJ];simp [labD]
 have hT0:wgtT N wd k 0=oneE N.rg wd:=rfl;have hTa:=wn (N:=N) wd k;refine zS Tryz.func87 uk ?_;unfold mq;refine zT ?_;(refine zC (Kk hr' hw' hwb) ?_);refine zU ?_;refine aA (N.ts.length) (mkB 55 18014398508439040) (fun j=>[(19,.d (.int j)),(7,.d (ints (wgtT N wd k j)))]) (fun j=>[]) (h1:=by first|(simp only[go_sem,seval,reduceCtorEq,nz,na,n1,hT0];first|done|rfl)|rfl) (h2:=by first|(simp only[go_sem,seval,reduceCtorEq,nz,na,n1,hT0];first|done|rfl)|rfl) (hr:=fun j hj=> ?_);unfold kP;by_cases hlt:j<N.ts.length
 ·have d1:(j:Int)<N.ts.length:=by omega
  have g3:=fj (zg hlt);have hmem:=List.getElem_mem hlt;obtain⟨wd',n,e1,e2,e3,e4,e5,e6,e7,e8,e9,e10⟩:=ct ((ae.1 hok).2.2.1 _ hmem);obtain rfl:wd=wd':=by omega
  have hi:=HI hok hmem e2;have hst:=hz.t N.ts[j] hmem;have hsl:=hst.l.len;have hxl:=hst.x.len;have hal:=e10.1;obtain⟨w1,w2⟩:=vT hok hw k j (by omega);have hn:=yD (N:=N) (wd:=wd) (k:=k) hlt;have hof:=hi.offs k;have hcl:=jr e7 (hi.off k).2;have hcut:=hi.cut e7 k;have hofl:=(hi.off k).2;simp(disch:=omega) only[go_sem,seval,reduceCtorEq,d1,g3];refine⟨by omega, ?_⟩
  refine aA (N.ts[j].labels.length) (mkB 55 2198763212800) (fun q=>[(10,.own 2 0 q),(27,.d (.int q))]) (fun q=>[(2,iv ((N.ts[j].labels.take q).map (atL (Sem.ar N) (ab (labD N) k))))]) (h1:=by first|(simp only[go_sem,seval,reduceCtorEq,nz,na,n1,List.take_zero,List.map_nil,br];first|done|rfl)|rfl) (h2:=by first|(simp only[go_sem,seval,reduceCtorEq,nz,na,n1,List.take_zero,List.map_nil,br];first|done|rfl)|rfl) (hr:=fun q hq=> ?_);unfold kU;by_cases hlq:q<N.ts[j].labels.length
  ·have d2:(q:Int)<N.ts[j].labels.length:=by omega
   have g:N.ts[j].labels[q]? =some N.ts[j].labels[q]:=zg hlq;obtain⟨p,hp,p1,p2,_⟩:=eU (hi.sup _ (List.getElem_mem hlq));have d3:(p:Int)<(ab (labD N) k).length:=by omega
   have gX:(ab (labD N) k)[p]? =some (atL (Sem.ar N) (ab (labD N) k) N.ts[j].labels[q]):=by
    unfold atL;rw[p1,Int.toNat_natCast,ac (by omega)];exact zg (by omega)
   simp(disch:=omega) only[go_sem,seval,reduceCtorEq,d2,g];(refine zC (iY (xs:=Sem.ar N) (x:=N.ts[j].labels[q]) (by omega)) ?_);have hrow:(N.ts[j].labels.take (q+1)).map (atL (Sem.ar N) (ab (labD N) k))=(N.ts[j].labels.take q).map (atL (Sem.ar N) (ab (labD N) k))++[atL (Sem.ar N) (ab (labD N) k) N.ts[j].labels[q]]:=by rw[ba hlq,List.map_append];rfl
   have hrl:((N.ts[j].labels.take q).map (atL (Sem.ar N) (ab (labD N) k))).length=q:=by simp;omega
   simp(disch:=omega) only[go_sem,seval,reduceCtorEq,p1,d3,gX,hrl]
   (repeat (refine And.intro (by omega) ?_))
   (refine Next.drop (mkB 55 2198763212800) (by omega) (h1:= ?_) (h2:= ?_)<;>first|(simp only[go_sem,seval,reduceCtorEq,nz,na,n1,hrow];first|done|rfl)|rfl|skip)
  ·have d2:¬(q:Int)<N.ts[j].labels.length:=by omega
   obtain rfl:q=N.ts[j].labels.length:=by omega
   have hml:(N.ts[j].labels.map (atL (Sem.ar N) (ab (labD N) k))).length=N.ts[j].labels.length:=List.length_map _;have tI:List.take N.ts[j].labels.length (N.ts[j].labels.map (atL (Sem.ar N) (ab (labD N) k)))=N.ts[j].labels.map (atL (Sem.ar N) (ab (labD N) k)):=zt (by omega);have hix:=hi.idx k;have hod:=e10.dim;have hIz:Sz 1099511627776 (N.ts[j].labels.map (atL (Sem.ar N) (ab (labD N) k))):=Ih e10 hix;simp(disch:=omega) only[go_sem,seval,reduceCtorEq,d2,List.take_length]
   (refine zD (ve (ds:=N.ts[j].dims) (is:=N.ts[j].labels.map (atL (Sem.ar N) (ab (labD N) k))) hst.d.up hIz hix hod (by omega)) ?_ (by simp only[go_sem,seval,reduceCtorEq,hml,tI]));simp only[go_sem,seval,reduceCtorEq,hof];(refine zD (Kj (kk:=N.k) (pp:=N.p) (nn:=N.n) (t:=N.ts[j]) (x:=bK N.ts[j].labels N.ts[j].dims (Sem.ar N) (labD N) k) hw' hwb.2 hcut (by omega) (by omega)) ?_);refine zU ?_;(refine zC (Kl (kk:=N.k) (pp:=N.p) (nn:=N.n) hr' hw' w2 (eY e8 _ _) w1 hcl) ?_);refine zV ?_
   (refine Next.drop (mkB 55 18014398508439040) (by omega) (h1:= ?_) (h2:= ?_)<;>first|(simp only[go_sem,seval,reduceCtorEq,nz,na,n1,hn];first|done|rfl)|rfl|skip)
 ·have d1:¬(j:Int)<N.ts.length:=by omega
  obtain rfl:j=N.ts.length:=by omega
  simp(disch:=omega) only[go_sem,seval,reduceCtorEq,d1,hTa];exact zX
set_option maxHeartbeats 3200000 in
theorem NetworkValue_d{N:Net}(hN:Gen6 N){wd:Nat}(hw:af N.rg=wd):
  Does Tryz.prog 48 [netA N] [] (.tup [tenA (Sem.nvR N wd),.d (.bool true)]) []:=by
 have hok:=hN.ok;have hz:=hN.sz;have hax:=bq hok;have hr:=(ae.1 hok).1;have hr':ai ⟨N.k,N.p,N.n⟩=true:=hr;have hw':af ⟨N.k,N.p,N.n⟩=wd:=hw;have hwb:=wd6 hr hw;have hol:=hz.o.len;have hLl:(Sem.ar N).length≤100:=fQ _ _;have hDl:(labD N).length=(Sem.ar N).length:=by simp [labD]
 have hDb:=AH hok;obtain⟨n,hi⟩:=K5 hok;have hpn:=hi.pn;have hn1:=hi.n1;have hod:=hi.ax.dim;have hpD:1≤aa (labD N)∧aa (labD N)≤729:=by
  have h6:Sem.L6 (Sem.ar N):=Sem.Cb hN;have hd:labD N=Sem.ay Sem.d6 (Sem.ar N):=List.map_congr_left fun x hx=>by rw[← Sem.kN hok x,Sem.zW hN hx]
  rw[hd];exact Sem.ox (Sem.fr N) h6
 obtain⟨A,hA⟩:=Int.eq_ofNat_of_zero_le (a:=aa (labD N)) (by omega);have hmn:min (aa (labD N)) 65537=(A:Int):=by omega
 have hosl:(N.os.map (dimN N.ts)).length=N.os.length:=List.length_map _;have hzl:=bz N.k N.p wd;have hrl:(repE (aq N.k N.p wd) n).length=n*wd:=by rw[dH,hzl]
 have hnw:n*wd≤4096*6:=Nat.mul_le_mul hn1.2 hwb.2;have hY:∀k,(Sem.nvTo N wd (repE (aq N.k N.p wd) n) k).length=n*wd∧fits N.rg (Sem.nvTo N wd (repE (aq N.k N.p wd) n) k):=fun k=>by
  induction k with
  |zero=>exact⟨hrl,eK fun x hx=>fA (j8 hr) x (wG n x hx)⟩
  |succ k ih=>
   obtain⟨i1,i2⟩:=ih;have hcut:=hi.cut i1 k;have hwt:=vT hok hw k N.ts.length (Nat.le_refl _);rw[wn]at hwt;have hl:=gM (r:=N.rg) (cK hcut) hwt.1;have hO:Sem.nvO N k=bK N.os (N.os.map (dimN N.ts)) (Sem.ar N) (labD N) k:=rfl;rw[Sem.nvTo,hO];exact⟨(bQ (by rw[hl];exact hcut)).trans i1,u7 i2 (uX hr (fB i2 _ _) hwt.2)⟩
 have hY0:Sem.nvTo N wd (repE (aq N.k N.p wd) n) 0=repE (aq N.k N.p wd) n:=rfl;have hfin:Sem.nvR N wd=⟨N.os,N.os.map (dimN N.ts),Sem.nvTo N wd (repE (aq N.k N.p wd) n) A⟩:=by
  have e1:aZ (N.os.map (dimN N.ts))=n:=by unfold aZ;omega
  have e2:aZ ((Sem.ar N).map (dimN N.ts))=A:=by unfold aZ;rw[show (Sem.ar N).map (dimN N.ts)=labD N from rfl];omega
  unfold Sem.nvR;rw[e1,e2]
  rfl
 have hlb:Does Tryz.prog 58 [.d (tens N.ts)] [] (.d (ints (Sem.ar N))) []:=Dr hz.l hz.t hax;have hdm:Does Tryz.prog 79 [.d (tens N.ts),.d (ints (Sem.ar N))] [] (.d (ints (labD N))) []:=Cg hz.l hz.t hax (by omega);have hdo:=Cg (L:=N.os) hz.l hz.t hax hol;have hfl:=(hY A).1;have hnv:∀k,Sem.nvTo N wd (repE (aq N.k N.p wd) n) (k+1)=putE (Sem.nvTo N wd (repE (aq N.k N.p wd) n) k) (bK N.os (N.os.map (dimN N.ts)) (Sem.ar N) (labD N) k*wd) (addE N.rg (cutE (Sem.nvTo N wd (repE (aq N.k N.p wd) n) k) wd (bK N.os (N.os.map (dimN N.ts)) (Sem.ar N) (labD N) k)) (Sem.wgtI N wd k)):=fun k=>rfl
 rw[hfin];refine oX ?_;simp only[ownT,stoF,hfl];generalize N.os.map (dimN N.ts)=OD at*;refine zS Tryz.func48 qq ?_;unfold iq;refine zT ?_;(refine zC (Aw hz) ?_);simp only[go_sem,seval,reduceCtorEq,hok];(refine zC (hlb) ?_);refine zU ?_;(refine zC (hdm) ?_);refine zU ?_;(refine zC (iC (ds:=labD N) (lim:=65536) (by omega) (fun d hd=>by have:=hDb d hd;omega) (by omega)) ?_ (by simp only[go_sem,seval,reduceCtorEq,hmn]));have c1:¬(A:Int)>65536:=by omega
 simp(disch:=omega) only[go_sem,seval,reduceCtorEq,hmn,c1];(refine zD (hdo) ?_);refine zU ?_;(refine zD (zo (kk:=N.k) (pp:=N.p) (nn:=N.n) (ls:=N.os) (ds:=OD) hw' hwb hol (by omega) (fun d hd=>by have:=hod d hd;omega) hpn hn1.2) ?_);simp(disch:=omega) only[go_sem,seval,reduceCtorEq,hrl]
 refine aA (A) (mkB 88 154742504910671434850776576) (fun k=>[(8,.d (.int k))]) (fun k=>[(4,iv (Sem.nvTo N wd (repE (aq N.k N.p wd) n) k))]) (h1:=by first|(simp only[go_sem,seval,reduceCtorEq,nz,na,n1,hY0];first|done|rfl)|rfl) (h2:=by first|(simp only[go_sem,seval,reduceCtorEq,nz,na,n1,hY0];first|done|rfl)|rfl) (hr:=fun k hk=> ?_);unfold gO;by_cases hlt:k<A
 ·have d1:(k:Int)<A:=by omega
  obtain⟨y1,y2⟩:=hY k;have hX:(ab (labD N) k).length=(Sem.ar N).length:=by rw[aJ,hDl]
  have hof:=hi.offs k;have hofl:=(hi.off k).2;have hcut:=hi.cut y1 k;have hwt:=vT hok hw k N.ts.length (Nat.le_refl _);rw[wn]at hwt;obtain⟨w1,w2⟩:=hwt;have hnx:=hnv k;simp(disch:=omega) only[go_sem,seval,reduceCtorEq,d1];(refine zC (FG (ds:=labD N) (n:=(k:Int)) (fun d hd=>by have:=hDb d hd;omega) (by omega) (by omega)) ?_);refine zV ?_
  refine aA (N.os.length) (mkB 88 73778250570560180224) (fun q=>[(10,.own 6 0 q),(52,.d (.int q))]) (fun q=>[(6,iv ((N.os.take q).map (atL (Sem.ar N) (ab (labD N) k))))]) (h1:=by first|(simp only[go_sem,seval,reduceCtorEq,nz,na,n1,List.take_zero,List.map_nil,br];first|done|rfl)|rfl) (h2:=by first|(simp only[go_sem,seval,reduceCtorEq,nz,na,n1,List.take_zero,List.map_nil,br];first|done|rfl)|rfl) (hr:=fun q hq=> ?_);unfold gR;by_cases hlq:q<N.os.length
  ·have d2:(q:Int)<N.os.length:=by omega
   have g:N.os[q]? =some N.os[q]:=zg hlq;obtain⟨p,hp,p1,p2,_⟩:=eU (hi.sup _ (List.getElem_mem hlq));have d3:(p:Int)<(ab (labD N) k).length:=by omega
   have gX:(ab (labD N) k)[p]? =some (atL (Sem.ar N) (ab (labD N) k) N.os[q]):=by
    unfold atL;rw[p1,Int.toNat_natCast,ac (by omega)];exact zg (by omega)
   simp(disch:=omega) only[go_sem,seval,reduceCtorEq,d2,g];(refine zC (iY (xs:=Sem.ar N) (x:=N.os[q]) (by omega)) ?_);have hrow:(N.os.take (q+1)).map (atL (Sem.ar N) (ab (labD N) k))=(N.os.take q).map (atL (Sem.ar N) (ab (labD N) k))++[atL (Sem.ar N) (ab (labD N) k) N.os[q]]:=by rw[ba hlq,List.map_append];rfl
   have hrl2:((N.os.take q).map (atL (Sem.ar N) (ab (labD N) k))).length=q:=by simp;omega
   simp(disch:=omega) only[go_sem,seval,reduceCtorEq,p1,d3,gX,hrl2]
   (repeat (refine And.intro (by omega) ?_))
   (refine Next.drop (mkB 88 73778250570560180224) (by omega) (h1:= ?_) (h2:= ?_)<;>first|(simp only[go_sem,seval,reduceCtorEq,nz,na,n1,hrow];first|done|rfl)|rfl|skip)
  ·have d2:¬(q:Int)<N.os.length:=by omega
   obtain rfl:q=N.os.length:=by omega
   have hml:(N.os.map (atL (Sem.ar N) (ab (labD N) k))).length=N.os.length:=List.length_map _;have hix:=hi.idx k;have hIz:Sz 1099511627776 (N.os.map (atL (Sem.ar N) (ab (labD N) k))):=Ih hi.ax hix;have hOz:Sz 1099511627776 OD:=⟨by omega,fun x hx=>by have:=hod x hx;unfold I64;omega⟩;simp(disch:=omega) only[go_sem,seval,reduceCtorEq,d2,List.take_length];generalize N.os.map (atL (Sem.ar N) (ab (labD N) k))=IX at*;generalize Sem.nvTo N wd (repE (aq N.k N.p wd) n) k=Y at*;have tI:List.take N.os.length IX=IX:=zt (by omega);have tY:List.take (n*wd) Y=Y:=zt (by omega)
   have tO:List.take OD.length OD=OD:=List.take_length;(refine zC (ve (ds:=OD) (is:=IX) hOz hIz hix hod (by omega)) ?_ (by simp only[go_sem,seval,reduceCtorEq,hml,tI,tO]));simp only[go_sem,seval,reduceCtorEq,hof];have lo1:=cK hcut;have hal:=gM (r:=N.rg) lo1 w1;have hpl:=bQ (xs:=Y) (off:=bK N.os OD (Sem.ar N) (labD N) k*wd) (ys:=addE N.rg ((Y.drop (bK N.os OD (Sem.ar N) (labD N) k*wd)).take wd) (Sem.wgtI N wd k)) (by omega)
   (refine zD (Cj (kk:=N.k) (pp:=N.p) (nn:=N.n) (t:=⟨N.os,OD,Y⟩) (x:=bK N.os OD (Sem.ar N) (labD N) k) hw' hwb.2 hcut (by omega) (by show Y.length≤_;omega)) ?_ (by simp only[go_sem,seval,reduceCtorEq,y1,tY,tO]));refine zU ?_;(refine zD (Cf hok hz hw k) ?_);refine zU ?_;(refine zD (I7 (kk:=N.k) (pp:=N.p) (nn:=N.n) hr' hw' (fB y2 _ _) w2 lo1 w1) ?_ (by simp only[go_sem,seval,reduceCtorEq,lo1,List.take_take,Nat.min_self]));refine zU ?_;rw[show (⟨N.k,N.p,N.n⟩:Rg)=N.rg from rfl];unfold cutE at hnx;generalize addE N.rg ((Y.drop (bK N.os OD (Sem.ar N) (labD N) k*wd)).take wd) (Sem.wgtI N wd k)=Z at*
   have tZ:List.take wd Z=Z:=zt (by omega);(refine eu [2,3,4] false (zp (kk:=N.k) (pp:=N.p) (nn:=N.n) (ca:=N.os) (cb:=OD) (cc:=Y) (l:=N.os.length) (d:=OD.length) (m:=n*wd) (x:=bK N.os OD (Sem.ar N) (labD N) k) (ys:=Z) rfl rfl y1.symm hw' hal hwb (by omega) (by omega) (by omega)) (zd rfl) ?_ ?_ ?_ ?_ (zd rfl) ?_;(focus (simp only[go_sem,seval,reduceCtorEq,hpl,y1,tZ,hal];done));(focus (simp only[go_sem,seval,reduceCtorEq];done));(focus (simp only[go_sem,seval,reduceCtorEq,hpl,y1,tZ,hal];done));(focus (simp only[go_sem,seval,reduceCtorEq];done)));refine zV ?_
   (refine Next.drop (mkB 88 154742504910671434850776576) (by omega) (h1:= ?_) (h2:= ?_)<;>first|(simp only[go_sem,seval,reduceCtorEq,nz,na,n1,hnx];first|done|rfl)|rfl|skip)
 ·have d1:¬(k:Int)<A:=by omega
  obtain rfl:k=A:=by omega
  simp(disch:=omega) only[go_sem,seval,reduceCtorEq,d1];refine FnEnd.wk Wk.nogA ?_;exact zX
end Go.Proofs.YtobhmajhachnaaaGreatDoor
