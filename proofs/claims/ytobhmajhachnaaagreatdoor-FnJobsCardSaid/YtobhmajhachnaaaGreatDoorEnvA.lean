/-
 Contracts: tensors replaced, environments, by the program; tensors made like another, by the reference. No condition.
-/
import Derived.Test.YtobhmajhachnaaaGreatDoorMgJobsA
import Derived.Test.YtobhmajhachnaaaGreatDoorCtrB
import Derived.Test.YtobhmajhachnaaaGreatDoorOrdB
import Derived.Test.YtobhmajhachnaaaGreatDoorNvA
import Derived.Test.YtobhmajhachnaaaGreatDoorImpA
import Derived.Test.YtobhmajhachnaaaGreatDoorCoD
set_option linter.unusedSimpArgs false
set_option linter.unusedVariables false
namespace Go.Proofs.YtobhmajhachnaaaGreatDoor
open Go.RowKit Go.Lift Plain
set_option maxRecDepth 100000
section
variable {ts : List Ten} {i k : Nat} {t : Ten}
end
theorem Bb{t:Ten}(h:TSz 1048576 t):Does Tryz.prog 68 [tenA t] [] (tenA t) []:=xM (n9 h)
theorem AZ{kk pp nn:Int}{wd n:Nat}{ls ds z:List Int}(hz:z.length=wd)(h1:1≤wd∧wd≤6)(hls:ls.length≤1048576)(hds:ds.length≤1048576)(hd:∀d∈ds,1≤d)(hn:aa ds=n)(hn2:n≤4096):
  Does Tryz.prog 34 [aY kk pp nn,.d (ints ls),.d (ints ds),.d (ints z)] [] (tenA ⟨ls,ds,repE z n⟩) []:=xM (ti hz h1 hls hds hd hn hn2)
set_option maxRecDepth 100000
theorem qf{xs:List Int}(h:xs.length≤1048576):Does Tryz.prog 19 [.d (ints xs),.d (ints xs)] [] (.d (.bool true)) []:=by
 have c0:((xs.length:Int)==xs.length)=true:=by simp
 refine zS Tryz.func19 Cl ?_;unfold vy;refine zT ?_;refine aA (xs.length) (mkB 32 134216816) (fun k=>[(9,.d (.int k))]) (fun k=>[]) (hr:=fun k hk=> ?_);unfold tK;by_cases hlt:k<xs.length
 ·have d1:(k:Int)<xs.length:=by omega
  have d2:¬(k:Int)≥xs.length:=by omega
  have g:xs[k]? =some xs[k]:=zg hlt;have c:(xs[k] !=xs[k])=false:=by simp
  simp(disch:=omega) only[go_sem,seval,reduceCtorEq,d1,d2,g,c];exact Next.drop (mkB 32 134216816) (by omega)
 ·have d1:¬(k:Int)<xs.length:=by omega
  simp(disch:=omega) only[go_sem,seval,reduceCtorEq,d1,c0];exact zX
theorem yJ{t:Ten}(h:TSz 1048576 t):Does Tryz.prog 14 [tenA t,tenA t] [] (.d (.bool true)) []:=by
 refine zS Tryz.func14 Ck ?_;unfold vx;refine zT ?_;(refine zC (qf (xs:=t.labels) h.l.len) ?_);refine zU ?_;(refine zC (qf (xs:=t.dims) h.d.len) ?_);refine zU ?_;(refine zC (qf (xs:=t.data) h.x.len) ?_);refine zU ?_;exact zX
theorem Jp{N:Net}(hN:Gen6 N){wd:Nat}(hw:af N.rg=wd):Does Tryz.prog 15 [netA N] [] (tenA (Sem.nvR N wd)) []:=by
 have h:=NetworkValue_d hN hw;generalize Sem.nvR N wd=V at*;refine zS Tryz.func15 AL ?_;unfold tN;refine zT ?_;(refine zC (h) ?_);refine zU ?_;exact zX
theorem Np{N:Net}(hN:Gen6 N){wd:Nat}(hw:af N.rg=wd):TSz 1048576 (Sem.nvR N wd):=Sem.wr (ae.1 hN.ok).1 hw (Sem.nv6 hN (ae.1 hN.ok).1 hw).1 (os6 hN)
theorem yb{b:List Int}(hb:CodeOk b){c:Cur}(hi:c.i≤b.length){xs:List Int}(hn:xs.length≤1048576):
  Does Tryz.prog 24 [.ptr 0 0,.d (ints xs)] [curS b c] (.own 1 0 xs.length) [curS b (bf b c xs xs.length).1,some ⟨1,true,iv (bf b c xs xs.length).2⟩]:=by
 refine zS Tryz.func24 kE ?_;unfold fH;unfold curS curR curC;refine zT ?_;(refine zC (qb (xs:=xs) (by omega)) ?_);refine zU ?_;have e0:(bf b c xs 0).1=c:=rfl;have e1:(bf b c xs 0).2=xs:=rfl;refine aA (xs.length) (mkB 37 68719460800) (fun k=>[(13,.d (.int k))]) (fun k=>[(0,curC b (bf b c xs k).1.i (bf b c xs k).1.h),(1,iv (bf b c xs k).2)]) (h1:=by first|(simp only[go_sem,seval,reduceCtorEq,nz,na,n1,e0,e1,curC];first|done|rfl)|rfl) (h2:=by first|(simp only[go_sem,seval,reduceCtorEq,nz,na,n1,e0,e1,curC];first|done|rfl)|rfl) (hr:=fun k hk=> ?_);unfold eR;by_cases hlt:k<xs.length
 ·have d1:(k:Int)<xs.length:=by omega
  have hs:bf b c xs (k+1)=((aw b (k+1:Nat) (bf b c xs k).1).2,swp (bf b c xs k).2 k (aw b (k+1:Nat) (bf b c xs k).1).1.toNat):=rfl;have hl:=eX b c xs k;have hck:=oQ hi xs k;generalize bf b c xs k=S at hs hl hck;obtain⟨c1,L⟩:=S;simp only at hl hck hs;have hr:=cF (b:=b) (n:=((k+1:Nat):Int)) (by omega) c1;have hd:=gF hb hck (n:=((k+1:Nat):Int)) (by omega);generalize aw b ((k+1:Nat):Int) c1=T at hr hd hs;obtain⟨r,c2⟩:=T;simp only at hr hd hs;obtain⟨q,rfl⟩:=Int.eq_ofNat_of_zero_le hr.1;have hq:q<L.length:=by omega
  have hk:k<L.length:=by omega
  have g1:L[k]? =some L[k]:=zg hk;have g2:L[q]? =some L[q]:=zg hq;have d2:(k:Int)+1=((k+1:Nat):Int):=by omega
  have d3:(q:Int)<L.length:=by omega
  have hsw:swp L k q=(L.set k L[q]).set q L[k]:=by unfold swp;rw[ac hk,ac hq]
  have p1:=cW (xs:=L) (x:=L[q]) hk;have p2:=cW (xs:=L.set k L[q]) (x:=L[k]) (n:=q) (by rw[List.length_set];exact hq);have e1:(bf b c xs (k+1)).1=c2:=by rw[hs]
  have e2:(bf b c xs (k+1)).2=(L.set k L[q]).set q L[k]:=by rw[hs];simp only[Int.toNat_natCast,hsw]
  unfold curS curR curC at hd;simp(disch:=omega) only[go_sem,seval,reduceCtorEq,d1,curC,d2];(refine am [0] [] false (zd rfl) ?_ _ ?_ (hd) ?_ ?_;(focus (simp only[go_sem,seval,reduceCtorEq];done));(focus (simp only[go_sem,seval,reduceCtorEq];done));(focus (first|rfl|(simp only[go_sem,seval,reduceCtorEq];done))));simp(disch:=omega) only[go_sem,seval,reduceCtorEq,g1,g2,Option.map_some,p1,p2,List.length_set,hl]
  (repeat (refine And.intro (by omega) ?_))
  (refine Next.drop (mkB 37 68719460800) (by omega) (h1:= ?_) (h2:= ?_)<;>first|(simp only[go_sem,seval,reduceCtorEq,nz,na,n1,e1,e2,curC];first|done|rfl)|rfl|skip)
 ·have d1:¬(k:Int)<xs.length:=by omega
  obtain rfl:k=xs.length:=by omega
  simp(disch:=omega) only[go_sem,seval,reduceCtorEq,d1,curC];exact zX
set_option maxRecDepth 100000
theorem MakeClosed_d{b:List Int}(hb:CodeOk b){m:Nat}(hm:m≤1000){N:Net}(hN:Gen6 N):
  ∃xs:List Int,xs.Perm (aE N)∧Does Tryz.prog 7 [.d (bytes b),.d (.int m),netA N] [] (.d (ints xs)) []:=by
 obtain⟨i,h,hi,hd⟩:=sD hb hm;have hcl:=(xU N).len;have hlc:=(Ce hN.sz hN.ok).fzI;have hx:=yb hb (c:=⟨i,h⟩) hi (xs:=aE N) (by omega);have hp:=jk (b:=b) ⟨i,h⟩ (aE N) (aE N).length (Nat.le_refl _);refine⟨_,hp, ?_⟩;have hl:=hp.length_eq;generalize aE N=C at*;generalize bf b ⟨i,h⟩ C C.length=T at hx hl;obtain⟨c2,xs⟩:=T;simp only at hx hl ⊢;rw[← hl]at hx;refine Does.fzI (g:=true) ?_;unfold curS curR curC at hx;unfold curR curC at hd;refine zS Tryz.func7 sH ?_;unfold le;simp only[netA];refine zT ?_;(refine zD (hd) ?_);refine zU ?_;(refine zC (hlc) ?_ (by simp only[go_sem,seval,reduceCtorEq,netA]))
 refine zU ?_;(refine am [1] [] false (zd rfl) ?_ _ ?_ (hx) ?_ ?_;(focus (simp only[go_sem,seval,reduceCtorEq];done));(focus (simp only[go_sem,seval,reduceCtorEq];done));(focus (first|rfl|(simp only[go_sem,seval,reduceCtorEq];done))));refine zV ?_;exact zX
set_option maxRecDepth 100000
def jobA(L:List Int)(n:Nat)(F:List Int)(q:Int)(S:Ten):AV:=.agg [.d (ints L),.d (stp n F),.d (.int q),.d (ints S.labels),.d (ints S.dims),.d (ints S.data)]
structure JobC(N:Net)(wd:Nat)(L:List Int)(n:Nat)(F:List Int):Prop where
 six:Gen6 N
 hw:af N.rg=wd
 cls:ClsOk N L
 l4:L.length≤4
 ord:bo N n F=true
 fsz:StpSz 1048576 n F
section
variable {N : Net} {wd n : Nat} {L F : List Int}
theorem Lk(h:Gen6 N){x:Int}(hx:x∈Sem.ar N):dimN N.ts x=(Sem.d6 x:Int):=by rw[← Sem.zW h hx,Sem.kN h.ok]
theorem nc(h:Gen6 N){x:Int}(hx:x∈aE N):x∈Sem.ar N∧x∈Sem.aE N:=by
 have hll:an N=aX (labP N.ts) 100:=by simp [an,h.ok]
 obtain⟨h1,h2⟩:=Aj.1 hx;rw[hll]at h1;exact⟨h1,List.mem_filter.2 ⟨h1,by rw[Bool.not_eq_true',aI];exact h2⟩⟩
theorem JobC.dims(h:JobC N wd L n F):L.map (dimN N.ts)=Sem.ay Sem.d6 L:=List.map_congr_left fun x hx=>Lk h.six (nc h.six (h.cls.mem x hx)).1
theorem JobC.cnt(h:JobC N wd L n F):cntS N L=(Sem.pN Sem.d6 L:Int):=by
 rw[cntS,if_pos ⟨h.six.ok,h.l4,h.cls.dist⟩,h.dims,Sem.cX]
theorem JobC.sl(h:JobC N wd L n F)(q:Nat):SlV N L (ab (Sem.ay Sem.d6 L) q):=by
 have:=h.cls.lab.sl (q:Int)
 rwa [show gG N L=Sem.ay Sem.d6 L from h.dims]at this
theorem JobC.mem(h:JobC N wd L n F):∀x∈L,x∈Sem.aE N:=fun x hx=>(nc h.six (h.cls.mem x hx)).2
theorem Hk(h:Gen6 N):N.os.map (dimN N.ts)=Sem.ay Sem.d6 N.os:=List.map_congr_left fun x hx=>Lk h (Sem.vb h.ok x hx)
theorem JobC.sum(h:JobC N wd L n F)(k:Nat):Sem.TV N.rg wd Sem.d6 (Sem.sumK N wd L k)∧(Sem.sumK N wd L k).labels=N.os:=by
 obtain⟨h1,h2,_⟩:=Sem.Ar h.hw h.six h.cls.nd h.mem h.sl k;exact⟨h1,h2⟩
theorem JobC.bd(h:JobC N wd L n F):1≤Sem.pN Sem.d6 L∧Sem.pN Sem.d6 L≤4096:=by
 have h1:=Sem.AA Sem.d6 (L:=L) fun x _=>Sem.xR x
 have h6:∀x∈L,0≤x∧x<6:=fun x hx=>Sem.Cb h.six x (nc h.six (h.cls.mem x hx)).1
 have h2:=(Sem.ox h.cls.nd h6).2;rw[Sem.cX]at h2;omega
end
theorem vr{n:Nat}{F:List Int}(h:StpSz 1048576 n F):Does Tryz.prog 37 [.d (stp n F)] [] (.d (stp n F)) []:=Does.fzS (g:=true) (CX h) h.l
theorem A7{L:List Int}{n:Nat}{F:List Int}{q:Int}{T:Ten}(hL:Sz 1048576 L)(hF:StpSz 1048576 n F)(hT:TSz 1048576 T):Does Tryz.prog 38 [jobA L n F q T] [] (jobA L n F q T) []:=by
 have hc:=(cj (xs:=L) (by have:=hL.len;omega)).fzI;have hs:=vr hF;have ht:=Bb hT;unfold jobA;refine zS Tryz.func38 xt ?_;unfold pU;refine zT ?_;(refine zD (hc) ?_);refine zU ?_;(refine zD (hs) ?_);refine zU ?_;(refine zD (ht) ?_);refine zU ?_;exact zX
theorem G8{P:Program}{f:FuncId}{args:List AV}{l d:List Int}{g0 g1:Bool}(hd:d.length=l.length)(h:Does P f args [] (.agg [.own 0 0 l.length,.own 1 0 l.length,.nil]) [some ⟨1,g0,iv l⟩,some ⟨1,g1,iv d⟩]):Does P f args [] (.agg [.d (ints l),.d (ints d),.nil]) []:=by
 rw[← hd]at h;have tk:∀xs:List Int,List.take xs.length (dv xs)=dv xs:=fun xs=>zt (by rw[cM];exact Nat.le_refl _)
 have tk2:List.take d.length (dv l)=dv l:=by rw[hd];exact tk l
 have h1:Wk 0 [.agg [.own 0 0 d.length,.own 1 0 d.length,.nil]] [some ⟨1,g0,iv l⟩,some ⟨1,g1,iv d⟩] [.agg [.d (ints l),.d (ints d),.nil]] [none,none]:=by
  refine(Wk.freeze 0 (R:=⟨1,g0,iv l⟩) (ls:=dv l) (Nat.le_refl _) rfl bn (e':=[.agg [.d (ints l),.own 1 0 d.length,.nil]]) (σ':=[none,some ⟨1,g1,iv d⟩]) ?_ ?_).trans ?_
  ·simp [mapL,mapA,fzG,ints,tk,hd]
  ·simp [frz,vl,fzG]
  refine Wk.freeze 1 (R:=⟨1,g1,iv d⟩) (ls:=dv d) (Nat.zero_le _) rfl bn ?_ ?_
  ·simp [mapL,mapA,fzG,ints,tk]
  ·simp [frz,vl,fzG]
 exact Does.noneS2 (h.wk0 h1)
theorem J7{D L:List Int}(hD:D.length=100)(hL:L.length≤1048576)(hx:∀x∈L,0≤x∧x≤99):
  Does Tryz.prog 31 [.agg (iv D),.d (ints L)] [] (.agg [.d (ints L),.d (ints (L.map (atT D))),.nil]) []:=G8 (by simp) (tD hD hL hx)
theorem wV{N:Net}(hN:Gen6 N):Does Tryz.prog 33 [netA N] [] (.agg [.d (ints N.os),.d (ints (Sem.ay Sem.d6 N.os)),.nil]) []:=by
 have hz:=hN.sz;have hax:=bq hN.ok;have hRl:=dz N.ts;have hat:=(du hax).2 ((du hax).1.2 (ae.1 hN.ok).2.2.2.1);have o6:=os6 hN;have hmp:N.os.map (atT (bA N.ts).1)=Sem.ay Sem.d6 N.os:=by
  rw[← Hk hN];exact List.map_congr_left fun x hx=>hat x (by have:=o6 x hx;omega)
 have hdo:=jn (ts:=N.ts) hz.l hz.t hax;have hao:=J7 (D:=(bA N.ts).1) (L:=N.os) hRl hz.o.len fun x hx=>by have:=o6 x hx;omega
 rw[hmp]at hao;have ht100:(bA N.ts).1.take 100=(bA N.ts).1:=zt (by omega);have hdr:List.drop 100 (repI 100 0)=[]:=List.drop_of_length_le (by rw[dG];exact Nat.le_refl _);generalize (bA N.ts).1=D at*;generalize Sem.ay Sem.d6 N.os=O at*;refine zS Tryz.func33 vI ?_;unfold nX;simp only[netA];refine zT ?_;(refine zC (hdo) ?_);simp(disch:=omega) only[go_sem,seval,reduceCtorEq,hdr,List.append_nil];refine⟨hRl,by omega, ?_⟩;(refine zC (hao) ?_ (by simp only[go_sem,seval,reduceCtorEq,ht100]));refine zU ?_;exact zX
section
variable {N : Net} {wd n : Nat} {L F : List Int}
theorem JobC.szL(h:JobC N wd L n F):Sz 1048576 L:=h.cls.lab.szL
theorem JobC.szS(h:JobC N wd L n F){S:Ten}(hS:Sem.TV N.rg wd Sem.d6 S)(hl:S.labels=N.os):TSz 1048576 S:=Sem.wr (ae.1 h.six.ok).1 h.hw hS (by rw[hl];exact os6 h.six)
theorem JobOk_d(h:JobC N wd L n F){q:Nat}(hq:q≤Sem.pN Sem.d6 L){S:Ten}(hS:Sem.TV N.rg wd Sem.d6 S)(hl:S.labels=N.os):
  Does Tryz.prog 17 [netA N,jobA L n F q S] [] (.d (.bool true)) []:=by
 have hz:=h.six.sz;have hr:=(ae.1 h.six.ok).1;obtain⟨i1,i2,i3⟩:=jf hr;have hbd:=h.bd;have hcnt:=h.cnt;have hsc:=dw hz h.szL;rw[hcnt]at hsc;have hoo:=rC hz h.fsz;rw[h.ord]at hoo;have hoa:=wV h.six;have hts:=h.szS hS hl;have htk:=bM (k:=N.k) (p:=N.p) (n:=N.n) i1 i2 i3 (t:=S) ⟨⟨by have:=hts.l.len;omega,hts.l.wf⟩,⟨by have:=hts.d.len;omega,hts.d.wf⟩,⟨by have:=hts.x.len;omega,hts.x.wf⟩⟩;have hok:al ⟨N.k,N.p,N.n⟩ S.labels S.dims S.data=true:=Sem.uY hr h.hw hS (by rw[hl];exact os6 h.six);rw[hok]at htk;have hdm:S.dims=Sem.ay Sem.d6 N.os:=by rw[hS.dm,hl]
 have he1:=oU (xs:=S.labels) (ys:=N.os) hts.l.len hz.o.len;have he2:=oU (xs:=S.dims) (ys:=Sem.ay Sem.d6 N.os) hts.d.len (by rw[← hdm];exact hts.d.len);rw[decide_eq_true hl]at he1;rw[decide_eq_true hdm]at he2;have c0:((Sem.pN Sem.d6 L:Int)== -1)=false:=by rw[beq_eq_false_iff_ne];omega
 have c1:¬(q:Int)<0:=by omega
 have c2:¬(q:Int)>(Sem.pN Sem.d6 L:Nat):=by omega
 generalize Sem.ay Sem.d6 N.os=O at*;generalize Sem.pN Sem.d6 L=M at*;unfold jobA;simp only[netA,aY,tenA]at*;refine zS Tryz.func17 AP ?_;unfold tS;refine zT ?_;(refine zC (hsc) ?_);simp only[go_sem,seval,reduceCtorEq,c0];(refine zC (hoo) ?_);simp only[go_sem,seval,reduceCtorEq,c1,c2];(refine zC (hoa) ?_);refine zU ?_;(refine zC (htk) ?_);refine zU ?_;(refine zC (he1) ?_);refine zU ?_;(refine zC (he2) ?_);refine zU ?_;exact zX
theorem Je{kk pp nn:Int}{wd:Nat}(h1:1≤wd∧wd≤6)(hw:af ⟨kk,pp,nn⟩=wd):Does Tryz.prog 35 [aY kk pp nn] [] (.d (ints (aq kk pp wd))) []:=by
 have e:ints (aq kk pp wd)=.sl wd (dv (aq kk pp wd)):=by unfold ints;rw[bz]
 rw[e];exact Does.fz (yN hw h1) bn (by rw[cM,bz,Nat.mul_one])
theorem StartJob_d(h:JobC N wd L n F):
  Does Tryz.prog 9 [netA N,.d (stp n F),.d (ints L)] [] (.tup [jobA L n F 0 (Sem.sumK N wd L 0),.d (.bool true)]) []:=by
 have hz:=h.six.sz;have hr:=(ae.1 h.six.ok).1;have hw:=h.hw;have hwb:=wd6 hr hw;have hbd:=h.bd;have hcnt:=h.cnt;have hsc:=dw hz h.szL;rw[hcnt]at hsc;have hoo:=rC hz h.fsz;rw[h.ord]at hoo;have hoa:=wV h.six;have o6:=os6 h.six;have hpd:=Sem.ox (Sem.yZ h.six.ok) o6;have hdl:(Sem.ay Sem.d6 N.os).length=N.os.length:=by simp [Sem.ay]
 have hzo:=hz.o.len;have hrz:=Je hwb (show af ⟨N.k,N.p,N.n⟩=wd from hw);have hpn:aa (Sem.ay Sem.d6 N.os)=(Sem.pN Sem.d6 N.os:Int):=Sem.cX ..;rw[hpn]at hpd;have hft:=AZ (kk:=N.k) (pp:=N.p) (nn:=N.n) (wd:=wd) (n:=Sem.pN Sem.d6 N.os) (ls:=N.os) (ds:=Sem.ay Sem.d6 N.os) (z:=aq N.k N.p wd) (bz _ _ _) hwb hzo (by omega) (fun d hd=>by
  obtain⟨x,hx,rfl⟩:=List.mem_map.1 hd;have:=Sem.xR x;omega) hpn (by omega)
 have hci:=(cj (xs:=L) (by have:=h.szL.len;omega)).fzI;have hcs:=vr h.fsz;have c0:((Sem.pN Sem.d6 L:Int)== -1)=false:=by rw[beq_eq_false_iff_ne];omega
 have es:Sem.sumK N wd L 0=⟨N.os,Sem.ay Sem.d6 N.os,repE (aq N.k N.p wd) (Sem.pN Sem.d6 N.os)⟩:=rfl;rw[es];generalize repE (aq N.k N.p wd) (Sem.pN Sem.d6 N.os)=Q at*;generalize Sem.ay Sem.d6 N.os=O at*;generalize Sem.pN Sem.d6 L=M at*;generalize aq N.k N.p wd=Z at*;unfold jobA;simp only[netA,aY,tenA]at*;refine zS Tryz.func9 vM ?_;unfold o4;refine zT ?_;(refine zC (hoo) ?_);refine zU ?_;(refine zC (hsc) ?_);simp only[go_sem,seval,reduceCtorEq,c0];(refine zC (hoa) ?_);refine zU ?_;(refine zD (hrz) ?_);refine zU ?_;(refine zD (hft) ?_);refine zU ?_;(refine zD (hci) ?_);refine zU ?_
 (refine zD (hcs) ?_);refine zU ?_;exact zX
end
set_option maxRecDepth 100000
section
variable {N : Net} {wd n : Nat} {L F : List Int}
theorem JobC.slc(h:JobC N wd L n F)(k:Nat):Gen6 (slA N L (ab (Sem.ay Sem.d6 L) k))∧af (slA N L (ab (Sem.ay Sem.d6 L) k)).rg=wd∧bo (slA N L (ab (Sem.ay Sem.d6 L) k)) n F=true∧(slA N L (ab (Sem.ay Sem.d6 L) k)).os=N.os:=
 ⟨Sem.Db h.hw h.six (h.sl k),h.hw,(h.sl k).order (k:=L.length) (Nat.le_refl _) h.ord,by
  show N.os.filter (outL L L.length)=N.os
  refine List.filter_eq_self.2 fun x hx=> ?_
  unfold outL;rw[List.take_length,Bool.not_eq_true',aI];exact fun hL=>((Sem.eN h.six.ok).1 (h.mem x hL)).2 hx⟩
theorem AddTensors_y{kk pp nn:Int}{t u:Ten}(a:I64 kk)(b:I64 pp)(c:I64 nn)(ht:TSz 1048576 t)(hu:TSz 1048576 u):
  Does Tryz.prog 51 [aY kk pp nn,tenA t,tenA u] [] (.tup [tenA (qE (addE ⟨kk,pp,nn⟩) ⟨kk,pp,nn⟩ t u),.d (.bool (alB ⟨kk,pp,nn⟩ t u))]) []:=oX (yx a b c ht hu)
theorem StepJob_d(h:JobC N wd L n F){k:Nat}(hk:k<Sem.pN Sem.d6 L):
  Does Tryz.prog 16 [netA N,jobA L n F k (Sem.sumK N wd L k)] [] (.tup [jobA L n F (k+1:Nat) (Sem.sumK N wd L (k+1)),.d (.bool true)]) []:=by
 have hz:=h.six.sz;have hr:=(ae.1 h.six.ok).1;obtain⟨i1,i2,i3⟩:=jf hr;have hbd:=h.bd;have hsc:=dw hz h.szL;rw[h.cnt]at hsc;obtain⟨hS,hl⟩:=h.sum k;have hjo:=JobOk_d h (q:=k) (by omega) hS hl;have hso:=F8 h.cls.lab (q:=(k:Int)) (by omega);rw[show gG N L=Sem.ay Sem.d6 L from h.dims]at hso;obtain⟨s6,sw,sok,sos⟩:=h.slc k;have hco:=Contract_d s6 sw sok h.fsz;have m1:=(Sem.nv6 s6 hr sw).1;have hml:(Sem.nvR (slA N L (ab (Sem.ay Sem.d6 L) k)) wd).labels=N.os:=sos;have hsm:=Sem.sum6 hr h.hw hS m1 (by rw[hl];exact os6 h.six) fun x=>by rw[hl,hml]
 have had:=AddTensors_y (kk:=N.k) (pp:=N.p) (nn:=N.n) i1 i2 i3 (h.szS hS hl) (h.szS m1 hml);rw[show (⟨N.k,N.p,N.n⟩:Rg)=N.rg from rfl,hsm.1,hsm.2]at had;have es:Sem.sumK N wd L (k+1)=Sem.sumT N.rg wd (Sem.sumK N wd L k) (Sem.nvR (slA N L (ab (Sem.ay Sem.d6 L) k)) wd):=rfl;rw[← es]at had;have hcj:=A7 (q:=(k:Int)) h.szL h.fsz (h.szS hS hl);have c1:¬(k:Int)≥(Sem.pN Sem.d6 L:Nat):=by omega
 have c2:(k:Int)+1=(k+1:Nat):=by omega
 clear es hsm m1 hS hml s6 sok sos hz sw;generalize Sem.nvR (slA N L (ab (Sem.ay Sem.d6 L) k)) wd=V at*;generalize slA N L (ab (Sem.ay Sem.d6 L) k)=B at*;generalize Sem.sumK N wd L (k+1)=S1 at*;generalize Sem.sumK N wd L k=S0 at*;generalize Sem.pN Sem.d6 L=M at*;unfold jobA at*;simp only[netA,aY,tenA]at*;refine zS Tryz.func16 oN ?_;unfold ko;refine zT ?_;(refine zD (hjo) ?_);refine zU ?_;(refine zD (hsc) ?_);simp only[go_sem,seval,reduceCtorEq,c1];(refine zD (hso) ?_);refine zU ?_;(refine zD (hco) ?_);refine zU ?_;(refine zC (hcj) ?_);simp(disch:=omega) only[go_sem,seval,reduceCtorEq,c2]
 (refine zC (had) ?_);refine zU ?_;exact zX
def jobZ:AV:=.agg [.nil,.nil,.d (.int 0),.nil,.nil,.nil]
theorem StepJob_no(h:JobC N wd L n F):
  Does Tryz.prog 16 [netA N,jobA L n F (Sem.pN Sem.d6 L:Nat) (Sem.sumK N wd L (Sem.pN Sem.d6 L))] [] (.tup [jobZ,.d (.bool false)]) []:=by
 have hz:=h.six.sz;have hsc:=dw hz h.szL;rw[h.cnt]at hsc;obtain⟨hS,hl⟩:=h.sum (Sem.pN Sem.d6 L);have hjo:=JobOk_d h (q:=Sem.pN Sem.d6 L) (Nat.le_refl _) hS hl;generalize Sem.sumK N wd L (Sem.pN Sem.d6 L)=S0 at*;have c1:(Sem.pN Sem.d6 L:Int)≥(Sem.pN Sem.d6 L:Nat):=by omega
 generalize Sem.pN Sem.d6 L=M at*;unfold jobZ;unfold jobA at*;simp only[netA]at*;refine zS Tryz.func16 oN ?_;unfold ko;refine zT ?_;(refine zD (hjo) ?_);refine zU ?_;(refine zD (hsc) ?_);simp only[go_sem,seval,reduceCtorEq,c1];exact zX
theorem RunJob_d(h:JobC N wd L n F){q s:Nat}(hq:q≤Sem.pN Sem.d6 L)(hs:s≤1048576):
  Does Tryz.prog 10 [netA N,jobA L n F q (Sem.sumK N wd L q),.d (.int s)] [] (.tup [jobA L n F (min (q+s) (Sem.pN Sem.d6 L):Nat) (Sem.sumK N wd L (min (q+s) (Sem.pN Sem.d6 L))),.d (.bool true)]) []:=by
 have hz:=h.six.sz;have hbd:=h.bd;have hsc:=dw hz h.szL;rw[h.cnt]at hsc;obtain⟨hS,hl⟩:=h.sum q;have hjo:=JobOk_d h hq hS hl;have hcj:=A7 (q:=(q:Int)) h.szL h.fsz (h.szS hS hl);have hst:=fun k (hk:k<Sem.pN Sem.d6 L)=>StepJob_d h (k:=k) hk
 obtain⟨R,hR⟩:∃R,R=min (q+s) (Sem.pN Sem.d6 L)-q:=⟨_,rfl⟩;have hR2:min (q+s) (Sem.pN Sem.d6 L)=q+R:=by omega
 rw[hR2];have hRs:R≤s:=by omega
 have hRM:q+R≤Sem.pN Sem.d6 L:=by omega
 have hRe:R=s∨q+R=Sem.pN Sem.d6 L:=by omega
 clear hR hR2 hS hl hz;generalize Sem.pN Sem.d6 L=M at*;generalize Sem.sumK N wd L=SK at*;unfold jobA at*;simp only[netA]at*;have c1:¬(s:Int)<0:=by omega
 refine zS Tryz.func10 yu ?_;unfold r7;refine zT ?_;(refine zC (hjo) ?_);simp only[go_sem,seval,reduceCtorEq,c1];(refine zC (hsc) ?_);refine zU ?_;(refine zC (hcj) ?_);refine zU ?_;have z0:q+0=q:=Nat.add_zero q;have z1:(s:Int)-(0:Nat)=s:=by omega
 refine aA (R) (mkB 48 140737354140800) (fun k=>[(2,.d (.int (s-(k:Nat))))]) (fun k=>[(3,[.d (ints L),.d (stp n F),.d (.int (q+k:Nat)),.d (ints (SK (q+k)).labels),.d (ints (SK (q+k)).dims),.d (ints (SK (q+k)).data)])]) (h1:=by first|(simp only[go_sem,seval,reduceCtorEq,nz,na,n1,z0,z1];first|done|rfl)|rfl) (h2:=by first|(simp only[go_sem,seval,reduceCtorEq,nz,na,n1,z0,z1];first|done|rfl)|rfl) (hr:=fun k hk=> ?_);unfold px;by_cases hlt:k<R
 ·have d1:(s:Int)-(k:Nat)>0:=by omega
  have d2:((q+k:Nat):Int)<(M:Nat):=by omega
  have hstk:=hst (q+k) (by omega);have e1:q+k+1=q+(k+1):=by omega
  have e2:(s:Int)-(k:Nat)-1=s-((k+1:Nat):Int):=by omega
  rw[e1]at hstk;simp(disch:=omega) only[go_sem,seval,reduceCtorEq,d1,d2];(refine zC (hstk) ?_);simp(disch:=omega) only[go_sem,seval,reduceCtorEq,e2];exact Next.drop (mkB 48 140737354140800) (by omega)
 ·obtain rfl:k=R:=by omega
  by_cases d1:(s:Int)-(k:Nat)>0
  ·have d2:¬((q+k:Nat):Int)<(M:Nat):=by omega
   simp(disch:=omega) only[go_sem,seval,reduceCtorEq,d1,d2];exact zX
  ·simp(disch:=omega) only[go_sem,seval,reduceCtorEq,d1]
   exact zX
end
end Go.Proofs.YtobhmajhachnaaaGreatDoor
