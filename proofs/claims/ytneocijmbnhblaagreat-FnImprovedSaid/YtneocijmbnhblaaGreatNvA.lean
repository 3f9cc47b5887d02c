/-
 Contracts: the value of a network by its definition, by the reference. No condition.
-/
import Derived.Test.YtneocijmbnhblaaGreatMgImprovedA
import Derived.Test.YtneocijmbnhblaaGreatStkA
import Derived.Test.YtneocijmbnhblaaGreatSemK
import Derived.Test.YtneocijmbnhblaaGreatGenH
set_option linter.unusedSimpArgs false
set_option linter.unusedVariables false
namespace Go.Proofs.YtneocijmbnhblaaGreat
open Go.RowKit Go.Lift Plain
set_option maxRecDepth 100000
section
variable {N : Net}
def labD (N:Net):List Int:=(Sem.ar N).map (dimN N.ts)
theorem uq (h:bC N=true):∀ d∈labD N,1≤d∧d≤8:=fun d hd=>by
 obtain⟨x,hx,rfl⟩:=List.mem_map.1 hd
 have h1:=(Sem.eJ h).1 hx
 have h2:=i9 (ct h) x
 omega
theorem yB (N:Net) {q:Nat} (hq:q<(Sem.ar N).length):(labD N).getD q 0=dimN N.ts (Sem.ar N)[q]:=by
 rw[ab (by simpa [labD]using hq)]
 simp [labD]
theorem BQ (h:bC N=true) {t:Ten} (ht:t∈N.ts) {n:Nat} (hp:aa t.dims=n):InOk t.labels t.dims (Sem.ar N) (labD N) n:=by
 have hok:=(an.1 h).2.2.1 t ht
 obtain⟨wd,n',e1,e2,e3,e4,e5,e6,e7,e8,e9,e10⟩:=eH hok
 refine⟨e10,hp,by omega,Sem.gG N,fun x hx=>Sem.gg h ht hx,by simp [labD],uq h,fun q hq hm=> ?_⟩
 rw[yB N hq, ← gS h ht hm]
 rfl
theorem DQ (h:bC N=true):∃ n:Nat,InOk N.os (N.os.map (dimN N.ts)) (Sem.ar N) (labD N) n:=by
 have hax:=Sem.Bx h
 have h0:=(an.1 h).2.2.2.2
 have hp0:=bf (N.os.map (dimN N.ts)) fun d hd=>(hax.dim d hd).1
 rcases di N.os (N.os.map (dimN N.ts))with h1 | ⟨_,h2,_,_⟩
 ·exact absurd h1 h0
 ·refine⟨(aa (N.os.map (dimN N.ts))).toNat,hax,by omega,by omega,Sem.gG N,Sem.qn h,by simp [labD],uq h,fun q hq hm=> ?_⟩
  rw[yB N hq]
  obtain⟨k,hk,e1,e2,_⟩:=gc hm
  have:au ⟨N.os,N.os.map (dimN N.ts),[]⟩ (Sem.ar N)[q]=(N.os.map (dimN N.ts)).getD k 0:=by
   unfold au
   simp only
   rw[e1];rfl
  rw[this,ab (by simpa using hk),List.getElem_map,e2]
theorem InOk.offs {ls ds L D:List Int} {n:Nat} (h:InOk ls ds L D n) (i:Nat):offs ds (ls.map (atL L (ac D i)))=bK ls ds L D i:=by
 have h1:=lr h.ax.len (cn h.ax) h.nodup h.sup (xs:=ac D i) (by simp [bj,h.dl])
 rw[← h1]
 exact(h.off i).1
theorem Cf {ls ds is:List Int} (h:axOk ls ds) (hi:oM ds is):Sz 1099511627776 is:=by
 have hl:=hi.1
 have h12:=h.1
 have hdl:=h.len
 refine⟨by omega,fun x hx=> ?_⟩
 obtain⟨q,hq,rfl⟩:=List.getElem_of_mem hx
 have hq':q<ds.length:=by omega
 have h1:=hi.2 q hq'
 have h2:=h.dim ds[q] (List.getElem_mem hq')
 unfold r9 at h1
 rw[ab hq,ab hq']at h1
 unfold I64;omega
def wgtT (N:Net) (wd k j:Nat):List Int:=(N.ts.take j).foldl (fun acc t=>mulE N.rg acc (cutE t.data wd (bK t.labels t.dims (Sem.ar N) (labD N) k))) (oneE N.rg wd)
theorem sq {wd k j:Nat} (hj:j<N.ts.length):wgtT N wd k (j+1)=mulE N.rg (wgtT N wd k j) (cutE N.ts[j].data wd (bK N.ts[j].labels N.ts[j].dims (Sem.ar N) (labD N) k)):=by
 unfold wgtT
 rw[bi hj,List.foldl_append]
 rfl
theorem pX (wd k:Nat):wgtT N wd k N.ts.length=Sem.wgtI N wd k:=by
 unfold wgtT
 rw[List.take_length]
 rfl
theorem pr (h:bC N=true) {wd:Nat} (hw:ah N.rg=wd) (k:Nat):∀ j,j≤N.ts.length→(wgtT N wd k j).length=wd∧fits N.rg (wgtT N wd k j)
 | 0,_=>⟨fN _ _,(El.unit (an.1 h).1 hw).fit⟩
 | j+1,hj=>by
  obtain⟨h1,h2⟩:=pr h hw k j (by omega)
  have hmem:N.ts[j]∈N.ts:=List.getElem_mem (by omega)
  obtain⟨wd',n,e1,e2,e3,e4,e5,e6,e7,e8,e9,e10⟩:=eH ((an.1 h).2.2.1 _ hmem)
  obtain rfl:wd=wd':=by omega
  have hi:=BQ h hmem e2
  have hl:=kx e7 (hi.off k).2
  rw[sq (by omega)]
  exact⟨(fj e9 hw h2 (eM e8 _ _) h1 hl).1,nv e9 hw h2 (eM e8 _ _) h1 hl⟩
end
theorem E5 {kk pp nn:Int} {wd:Nat} (hr:af ⟨kk,pp,nn⟩=true) (hw:ah ⟨kk,pp,nn⟩=wd) (h1:1≤wd∧wd≤6):Does Tryz.prog 111 [bw kk pp nn] [] (.d (ints (oneE ⟨kk,pp,nn⟩ wd))) []:=by
 have h:=t9 hr hw h1
 have hl:=fN ⟨kk,pp,nn⟩ wd
 generalize oneE ⟨kk,pp,nn⟩ wd=e at*
 subst hl
 exact h.fzI
theorem E4 {x wd:Nat} {kk pp nn:Int} {t:Ten} (hw:ah ⟨kk,pp,nn⟩=(wd:Int)) (h1:wd≤6) (hx:x*wd+wd≤t.data.length) (hx2:x≤1099511627776) (h:t.data.length≤1099511627776):
  Does Tryz.prog 83 [bw kk pp nn,tenA t,.d (.int x)] [] (.d (ints (cutE t.data wd x))) []:=by
 have h:=w8 hw h1 hx hx2 h
 have hl:=fE hx
 unfold cutE
 generalize (t.data.drop (x*wd)).take wd=e at*
 rw[← hl]at h
 exact h.fzI
theorem E6 {kk pp nn:Int} {x y:List Int} {wd:Nat} (hr:af ⟨kk,pp,nn⟩=true) (hw:ah ⟨kk,pp,nn⟩=wd) (hx:fits ⟨kk,pp,nn⟩ x) (hy:fits ⟨kk,pp,nn⟩ y) (lx:x.length=wd) (ly:y.length=wd):
  Does Tryz.prog 118 [bw kk pp nn,.d (ints x),.d (ints y)] [] (.d (ints (mulE ⟨kk,pp,nn⟩ x y))) []:=by
 have h:=C7 hr hw hx hy lx ly
 have hl:=(fj hr hw hx hy lx ly).1
 generalize mulE ⟨kk,pp,nn⟩ x y=e at*
 rw[← hl]at h
 exact h.fzI
theorem zY {ds:List Int} {n:Int} (hd:∀ d∈ds,1≤d∧d≤1000) (hl:ds.length≤1048576) (h0:0≤n∧n≤1152921504606846976):
  Does Tryz.prog 82 [.d (ints ds),.d (.int n)] [] (.d (ints (ac ds n))) []:=by
 have h:=xp hd hl h0
 have hl:=bj ds n
 generalize ac ds n=e at*
 rw[← hl]at h
 exact h.fzI
theorem w5 {ts:List Ten} {L:List Int} (h:ts.length≤1048576) (ht:∀ t∈ts,TSz 1048576 t) (hax:dg ts) (hL:L.length≤1048576):
  Does Tryz.prog 96 [.d (tens ts),.d (ints L)] [] (.d (ints (L.map (dimN ts)))) []:=by
 have h:=sZ h ht hax hL
 have hl:(L.map (dimN ts)).length=L.length:=List.length_map _
 generalize L.map (dimN ts)=e at*
 rw[← hl]at h
 exact h.fzI
theorem xo {ts:List Ten} (h:ts.length≤1048576) (ht:∀ t∈ts,TSz 1048576 t) (hax:dg ts):Does Tryz.prog 65 [.d (tens ts)] [] (.d (ints (bo (labP ts) 100))) []:=(oI h ht hax).fzI
set_option maxHeartbeats 1600000 in
theorem w4 {N:Net} (hok:bC N=true) (hz:NSz 1048576 N) {wd:Nat} (hw:ah N.rg=wd) (k:Nat):
  Does Tryz.prog 98 [netA N,.d (ints (Sem.ar N)),.d (ints (ac (labD N) k))] [] (.d (ints (Sem.wgtI N wd k))) []:=by
 have hr:=(an.1 hok).1
 have hr':af ⟨N.k,N.p,N.n⟩=true:=hr
 have hw':ah ⟨N.k,N.p,N.n⟩=wd:=hw
 have hwb:=wd6 hr hw
 have hnl:=hz.l
 have hLl:(Sem.ar N).length≤100:=j6 _ _
 have hX:(ac (labD N) k).length=(Sem.ar N).length:=by rw[bj];simp [labD]
 have hT0:wgtT N wd k 0=oneE N.rg wd:=rfl
 have hTa:=pX (N:=N) wd k
 (refine spec_of (by kernel_rfl) Tryz.func98 nF (fnOk (nb rfl) ?_);unfold C_spec_l12Weight)
 (simp only[Nat.reduceSub,Zl,zn,Nat.reduceAdd,zF];try simp only[ae]);(simp only[go_sem,seval,reduceCtorEq,List.replicate])
 (refine zC (E5 hr' hw' hwb) ?_)
 simp only[go_sem,seval,reduceCtorEq]
 refine aH (N.ts.length) (mkB 55 18014398508439040) (fun j=>[(19,.d (.int j)),(7,.d (ints (wgtT N wd k j)))]) (fun j=>[]) (h1:=by first | (simp only[go_sem,seval,reduceCtorEq,nz,na,n1,hT0];first | done | rfl) | rfl) (h2:=by first | (simp only[go_sem,seval,reduceCtorEq,nz,na,n1,hT0];first | done | rfl) | rfl) (hr:=fun j hj=> ?_)
 unfold L1_spec_l12Weight
 by_cases hlt:j<N.ts.length
 ·have d1:(j:Int)<N.ts.length:=by omega
  have g3:=fx (zg hlt)
  have hmem:=List.getElem_mem hlt
  obtain⟨wd',n,e1,e2,e3,e4,e5,e6,e7,e8,e9,e10⟩:=eH ((an.1 hok).2.2.1 _ hmem)
  obtain rfl:wd=wd':=by omega
  have hi:=BQ hok hmem e2
  have hst:=hz.t N.ts[j] hmem
  have hsl:=hst.l.len
  have hxl:=hst.x.len
  have hal:=e10.1
  obtain⟨w1,w2⟩:=pr hok hw k j (by omega)
  have hn:=sq (N:=N) (wd:=wd) (k:=k) hlt
  have hof:=hi.offs k
  have hcl:=kx e7 (hi.off k).2
  have hcut:=hi.cut e7 k
  have hofl:=(hi.off k).2
  simp(disch:=omega) only[go_sem,seval,reduceCtorEq,d1,g3]
  refine⟨by omega, ?_⟩
  refine aH (N.ts[j].labels.length) (mkB 55 2198763212800) (fun q=>[(10,.own 2 0 q),(27,.d (.int q))]) (fun q=>[(2,iv ((N.ts[j].labels.take q).map (atL (Sem.ar N) (ac (labD N) k))))]) (h1:=by first | (simp only[go_sem,seval,reduceCtorEq,nz,na,n1,List.take_zero,List.map_nil,bv];first | done | rfl) | rfl) (h2:=by first | (simp only[go_sem,seval,reduceCtorEq,nz,na,n1,List.take_zero,List.map_nil,bv];first | done | rfl) | rfl) (hr:=fun q hq=> ?_)
  unfold L0_spec_l12Weight
  by_cases hlq:q<N.ts[j].labels.length
  ·have d2:(q:Int)<N.ts[j].labels.length:=by omega
   have g:N.ts[j].labels[q]? =some N.ts[j].labels[q]:=zg hlq
   obtain⟨p,hp,p1,p2,_⟩:=gc (hi.sup _ (List.getElem_mem hlq))
   have d3:(p:Int)<(ac (labD N) k).length:=by omega
   have gX:(ac (labD N) k)[p]? =some (atL (Sem.ar N) (ac (labD N) k) N.ts[j].labels[q]):=by
    unfold atL
    rw[p1,Int.toNat_natCast,ab (by omega)]
    exact zg (by omega)
   simp(disch:=omega) only[go_sem,seval,reduceCtorEq,d2,g]
   (refine zC (iN (xs:=Sem.ar N) (x:=N.ts[j].labels[q]) (by omega)) ?_)
   have hrow:(N.ts[j].labels.take (q+1)).map (atL (Sem.ar N) (ac (labD N) k))=(N.ts[j].labels.take q).map (atL (Sem.ar N) (ac (labD N) k))++[atL (Sem.ar N) (ac (labD N) k) N.ts[j].labels[q]]:=by rw[bi hlq,List.map_append];rfl
   have hrl:((N.ts[j].labels.take q).map (atL (Sem.ar N) (ac (labD N) k))).length=q:=by simp;omega
   simp(disch:=omega) only[go_sem,seval,reduceCtorEq,p1,d3,gX,hrl]
   (repeat (refine And.intro (by omega) ?_))
   (refine Next.drop (mkB 55 2198763212800) (by omega) (h1:= ?_) (h2:= ?_)<;>first | (simp only[go_sem,seval,reduceCtorEq,nz,na,n1,hrow];first | done | rfl) | rfl | skip)
  ·have d2:¬ (q:Int)<N.ts[j].labels.length:=by omega
   obtain rfl:q=N.ts[j].labels.length:=by omega
   have hml:(N.ts[j].labels.map (atL (Sem.ar N) (ac (labD N) k))).length=N.ts[j].labels.length:=List.length_map _
   have tI:List.take N.ts[j].labels.length (N.ts[j].labels.map (atL (Sem.ar N) (ac (labD N) k)))=N.ts[j].labels.map (atL (Sem.ar N) (ac (labD N) k)):=zt (by omega)
   have hix:=hi.idx k
   have hod:=e10.dim
   have hIz:Sz 1099511627776 (N.ts[j].labels.map (atL (Sem.ar N) (ac (labD N) k))):=Cf e10 hix
   simp(disch:=omega) only[go_sem,seval,reduceCtorEq,d2,List.take_length]
   (refine bZ (oJ (ds:=N.ts[j].dims) (is:=N.ts[j].labels.map (atL (Sem.ar N) (ac (labD N) k))) hst.d.up hIz hix hod (by omega)) ?_ ?_ ?_;(focus (simp only[go_sem,seval,reduceCtorEq,hml,tI];done));(first | rfl | (focus (simp only[go_sem];done))))
   simp only[go_sem,seval,reduceCtorEq,hof]
   (refine zD (E4 (kk:=N.k) (pp:=N.p) (nn:=N.n) (t:=N.ts[j]) (x:=bK N.ts[j].labels N.ts[j].dims (Sem.ar N) (labD N) k) hw' hwb.2 hcut (by omega) (by omega)) ?_)
   simp only[go_sem,seval,reduceCtorEq]
   (refine zC (E6 (kk:=N.k) (pp:=N.p) (nn:=N.n) hr' hw' w2 (eM e8 _ _) w1 hcl) ?_)
   simp(disch:=omega) only[go_sem,seval,reduceCtorEq]
   (refine Next.drop (mkB 55 18014398508439040) (by omega) (h1:= ?_) (h2:= ?_)<;>first | (simp only[go_sem,seval,reduceCtorEq,nz,na,n1,hn];first | done | rfl) | rfl | skip)
 ·have d1:¬ (j:Int)<N.ts.length:=by omega
  obtain rfl:j=N.ts.length:=by omega
  simp(disch:=omega) only[go_sem,seval,reduceCtorEq,d1,hTa]
  (refine zE ?_ ?_<;>try simp only[go_sem,seval,reduceCtorEq])
set_option maxHeartbeats 3200000 in
theorem NetworkValue_d {N:Net} (hN:Gen6 N) {wd:Nat} (hw:ah N.rg=wd):
  Does Tryz.prog 45 [netA N] [] (.tup [tenA (Sem.nvR N wd),.d (.bool true)]) []:=by
 have hok:=hN.ok
 have hz:=hN.sz
 have hax:=ct hok
 have hr:=(an.1 hok).1
 have hr':af ⟨N.k,N.p,N.n⟩=true:=hr
 have hw':ah ⟨N.k,N.p,N.n⟩=wd:=hw
 have hwb:=wd6 hr hw
 have hol:=hz.o.len
 have hLl:(Sem.ar N).length≤100:=j6 _ _
 have hDl:(labD N).length=(Sem.ar N).length:=by simp [labD]
 have hDb:=uq hok
 obtain⟨n,hi⟩:=DQ hok
 have hpn:=hi.pn
 have hn1:=hi.n1
 have hod:=hi.ax.dim
 have hpD:1≤aa (labD N)∧aa (labD N)≤729:=by
  have h6:Sem.L6 (Sem.ar N):=Sem.C4 hN
  have hd:labD N=Sem.bP Sem.d6 (Sem.ar N):=List.map_congr_left fun x hx=>by rw[← Sem.jo hok x,Sem.wL hN hx]
  rw[hd]
  exact Sem.nj (Sem.gG N) h6
 obtain⟨A,hA⟩:=Int.eq_ofNat_of_zero_le (a:=aa (labD N)) (by omega)
 have hmn:min (aa (labD N)) 65537=(A:Int):=by omega
 have hosl:(N.os.map (dimN N.ts)).length=N.os.length:=List.length_map _
 have hzl:=bQ N.k N.p wd
 have hrl:(repE (az N.k N.p wd) n).length=n*wd:=by rw[ei,hzl]
 have hnw:n*wd≤4096*6:=Nat.mul_le_mul hn1.2 hwb.2
 have hY:∀ k,(Sem.nvTo N wd (repE (az N.k N.p wd) n) k).length=n*wd∧fits N.rg (Sem.nvTo N wd (repE (az N.k N.p wd) n) k):=fun k=>by
  induction k with
  | zero=>exact⟨hrl,fD fun x hx=>gO (gt hr) x (qg n x hx)⟩
  | succ k ih=>
   obtain⟨i1,i2⟩:=ih
   have hcut:=hi.cut i1 k
   have hwt:=pr hok hw k N.ts.length (Nat.le_refl _)
   rw[pX]at hwt
   have hl:=gU (r:=N.rg) (fE hcut) hwt.1
   have hO:Sem.nvO N k=bK N.os (N.os.map (dimN N.ts)) (Sem.ar N) (labD N) k:=rfl
   rw[Sem.nvTo,hO]
   exact⟨(c9 (by rw[hl];exact hcut)).trans i1,ni i2 (ot hr (gP i2 _ _) hwt.2)⟩
 have hY0:Sem.nvTo N wd (repE (az N.k N.p wd) n) 0=repE (az N.k N.p wd) n:=rfl
 have hfin:Sem.nvR N wd=⟨N.os,N.os.map (dimN N.ts),Sem.nvTo N wd (repE (az N.k N.p wd) n) A⟩:=by
  have e1:dI (N.os.map (dimN N.ts))=n:=by unfold dI;omega
  have e2:dI ((Sem.ar N).map (dimN N.ts))=A:=by unfold dI;rw[show (Sem.ar N).map (dimN N.ts)=labD N from rfl];omega
  unfold Sem.nvR
  rw[e1,e2]
  rfl
 have hlb:Does Tryz.prog 65 [.d (tens N.ts)] [] (.d (ints (Sem.ar N))) []:=xo hz.l hz.t hax
 have hdm:Does Tryz.prog 96 [.d (tens N.ts),.d (ints (Sem.ar N))] [] (.d (ints (labD N))) []:=w5 hz.l hz.t hax (by omega)
 have hdo:=w5 (L:=N.os) hz.l hz.t hax hol
 have hfl:=(hY A).1
 have hnv:∀ k,Sem.nvTo N wd (repE (az N.k N.p wd) n) (k+1)=putE (Sem.nvTo N wd (repE (az N.k N.p wd) n) k) (bK N.os (N.os.map (dimN N.ts)) (Sem.ar N) (labD N) k*wd) (addE N.rg (cutE (Sem.nvTo N wd (repE (az N.k N.p wd) n) k) wd (bK N.os (N.os.map (dimN N.ts)) (Sem.ar N) (labD N) k)) (Sem.wgtI N wd k)):=fun k=>rfl
 rw[hfin]
 refine rm ?_
 simp only[ownT,stoF,hfl]
 generalize N.os.map (dimN N.ts)=OD at*
 (refine spec_of (by kernel_rfl) Tryz.func45 kY (fnOk (nb rfl) ?_);unfold C_spec_NetworkValue)
 (simp only[Nat.reduceSub,Zl,zn,Nat.reduceAdd,zF];try simp only[ae]);(simp only[go_sem,seval,reduceCtorEq,List.replicate])
 (refine zC (ud hz) ?_)
 simp only[go_sem,seval,reduceCtorEq,hok]
 (refine zC (hlb) ?_)
 simp only[go_sem,seval,reduceCtorEq]
 (refine zC (hdm) ?_)
 simp only[go_sem,seval,reduceCtorEq]
 (refine aZ (g7 (ds:=labD N) (lim:=65536) (by omega) (fun d hd=>by have:=hDb d hd;omega) (by omega)) ?_ ?_ ?_;(focus (simp only[go_sem,seval,reduceCtorEq,hmn];done));(first | rfl | (focus (simp only[go_sem];done))))
 have c1:¬ (A:Int)>65536:=by omega
 simp(disch:=omega) only[go_sem,seval,reduceCtorEq,hmn,c1]
 (refine zD (hdo) ?_)
 simp only[go_sem,seval,reduceCtorEq]
 (refine zD (t4 (kk:=N.k) (pp:=N.p) (nn:=N.n) (ls:=N.os) (ds:=OD) hw' hwb hol (by omega) (fun d hd=>by have:=hod d hd;omega) hpn hn1.2) ?_)
 simp(disch:=omega) only[go_sem,seval,reduceCtorEq,hrl]
 refine aH (A) (mkB 88 154742504910671434850776576) (fun k=>[(8,.d (.int k))]) (fun k=>[(4,iv (Sem.nvTo N wd (repE (az N.k N.p wd) n) k))]) (h1:=by first | (simp only[go_sem,seval,reduceCtorEq,nz,na,n1,hY0];first | done | rfl) | rfl) (h2:=by first | (simp only[go_sem,seval,reduceCtorEq,nz,na,n1,hY0];first | done | rfl) | rfl) (hr:=fun k hk=> ?_)
 unfold L1_spec_NetworkValue
 by_cases hlt:k<A
 ·have d1:(k:Int)<A:=by omega
  obtain⟨y1,y2⟩:=hY k
  have hX:(ac (labD N) k).length=(Sem.ar N).length:=by rw[bj,hDl]
  have hof:=hi.offs k
  have hofl:=(hi.off k).2
  have hcut:=hi.cut y1 k
  have hwt:=pr hok hw k N.ts.length (Nat.le_refl _)
  rw[pX]at hwt
  obtain⟨w1,w2⟩:=hwt
  have hnx:=hnv k
  simp(disch:=omega) only[go_sem,seval,reduceCtorEq,d1]
  (refine zC (zY (ds:=labD N) (n:=(k:Int)) (fun d hd=>by have:=hDb d hd;omega) (by omega) (by omega)) ?_)
  simp(disch:=omega) only[go_sem,seval,reduceCtorEq]
  refine aH (N.os.length) (mkB 88 73778250570560180224) (fun q=>[(10,.own 6 0 q),(52,.d (.int q))]) (fun q=>[(6,iv ((N.os.take q).map (atL (Sem.ar N) (ac (labD N) k))))]) (h1:=by first | (simp only[go_sem,seval,reduceCtorEq,nz,na,n1,List.take_zero,List.map_nil,bv];first | done | rfl) | rfl) (h2:=by first | (simp only[go_sem,seval,reduceCtorEq,nz,na,n1,List.take_zero,List.map_nil,bv];first | done | rfl) | rfl) (hr:=fun q hq=> ?_)
  unfold L0_spec_NetworkValue
  by_cases hlq:q<N.os.length
  ·have d2:(q:Int)<N.os.length:=by omega
   have g:N.os[q]? =some N.os[q]:=zg hlq
   obtain⟨p,hp,p1,p2,_⟩:=gc (hi.sup _ (List.getElem_mem hlq))
   have d3:(p:Int)<(ac (labD N) k).length:=by omega
   have gX:(ac (labD N) k)[p]? =some (atL (Sem.ar N) (ac (labD N) k) N.os[q]):=by
    unfold atL
    rw[p1,Int.toNat_natCast,ab (by omega)]
    exact zg (by omega)
   simp(disch:=omega) only[go_sem,seval,reduceCtorEq,d2,g]
   (refine zC (iN (xs:=Sem.ar N) (x:=N.os[q]) (by omega)) ?_)
   have hrow:(N.os.take (q+1)).map (atL (Sem.ar N) (ac (labD N) k))=(N.os.take q).map (atL (Sem.ar N) (ac (labD N) k))++[atL (Sem.ar N) (ac (labD N) k) N.os[q]]:=by rw[bi hlq,List.map_append];rfl
   have hrl2:((N.os.take q).map (atL (Sem.ar N) (ac (labD N) k))).length=q:=by simp;omega
   simp(disch:=omega) only[go_sem,seval,reduceCtorEq,p1,d3,gX,hrl2]
   (repeat (refine And.intro (by omega) ?_))
   (refine Next.drop (mkB 88 73778250570560180224) (by omega) (h1:= ?_) (h2:= ?_)<;>first | (simp only[go_sem,seval,reduceCtorEq,nz,na,n1,hrow];first | done | rfl) | rfl | skip)
  ·have d2:¬ (q:Int)<N.os.length:=by omega
   obtain rfl:q=N.os.length:=by omega
   have hml:(N.os.map (atL (Sem.ar N) (ac (labD N) k))).length=N.os.length:=List.length_map _
   have hix:=hi.idx k
   have hIz:Sz 1099511627776 (N.os.map (atL (Sem.ar N) (ac (labD N) k))):=Cf hi.ax hix
   have hOz:Sz 1099511627776 OD:=⟨by omega,fun x hx=>by have:=hod x hx;unfold I64;omega⟩
   simp(disch:=omega) only[go_sem,seval,reduceCtorEq,d2,List.take_length]
   generalize N.os.map (atL (Sem.ar N) (ac (labD N) k))=IX at*
   generalize Sem.nvTo N wd (repE (az N.k N.p wd) n) k=Y at*
   have tI:List.take N.os.length IX=IX:=zt (by omega)
   have tY:List.take (n*wd) Y=Y:=zt (by omega)
   have tO:List.take OD.length OD=OD:=List.take_length
   (refine aZ (oJ (ds:=OD) (is:=IX) hOz hIz hix hod (by omega)) ?_ ?_ ?_;(focus (simp only[go_sem,seval,reduceCtorEq,hml,tI,tO];done));(first | rfl | (focus (simp only[go_sem];done))))
   simp only[go_sem,seval,reduceCtorEq,hof]
   have lo1:=fE hcut
   have hal:=gU (r:=N.rg) lo1 w1
   have hpl:=c9 (xs:=Y) (off:=bK N.os OD (Sem.ar N) (labD N) k*wd) (ys:=addE N.rg ((Y.drop (bK N.os OD (Sem.ar N) (labD N) k*wd)).take wd) (Sem.wgtI N wd k)) (by omega)
   (refine bZ (w8 (kk:=N.k) (pp:=N.p) (nn:=N.n) (t:=⟨N.os,OD,Y⟩) (x:=bK N.os OD (Sem.ar N) (labD N) k) hw' hwb.2 hcut (by omega) (by show Y.length≤_;omega)) ?_ ?_ ?_;(focus (simp only[go_sem,seval,reduceCtorEq,y1,tY,tO];done));(first | rfl | (focus (simp only[go_sem];done))))
   simp only[go_sem,seval,reduceCtorEq]
   (refine zD (w4 hok hz hw k) ?_)
   simp only[go_sem,seval,reduceCtorEq]
   (refine bZ (C8 (kk:=N.k) (pp:=N.p) (nn:=N.n) hr' hw' (gP y2 _ _) w2 lo1 w1) ?_ ?_ ?_;(focus (simp only[go_sem,seval,reduceCtorEq,lo1,List.take_take,Nat.min_self];done));(first | rfl | (focus (simp only[go_sem];done))))
   simp only[go_sem,seval,reduceCtorEq]
   rw[show (⟨N.k,N.p,N.n⟩:Rg)=N.rg from rfl]
   unfold cutE at hnx
   generalize addE N.rg ((Y.drop (bK N.os OD (Sem.ar N) (labD N) k*wd)).take wd) (Sem.wgtI N wd k)=Z at*
   have tZ:List.take wd Z=Z:=zt (by omega)
   (refine fG [2,3,4] false (t7 (kk:=N.k) (pp:=N.p) (nn:=N.n) (ca:=N.os) (cb:=OD) (cc:=Y) (l:=N.os.length) (d:=OD.length) (m:=n*wd) (x:=bK N.os OD (Sem.ar N) (labD N) k) (ys:=Z) rfl rfl y1.symm hw' hal hwb (by omega) (by omega) (by omega)) (zd rfl) ?_ ?_ ?_ ?_ (zd rfl) ?_;(focus (simp only[go_sem,seval,reduceCtorEq,hpl,y1,tZ,hal];done));(focus (simp only[go_sem,seval,reduceCtorEq];done));(focus (simp only[go_sem,seval,reduceCtorEq,hpl,y1,tZ,hal];done));(focus (simp only[go_sem,seval,reduceCtorEq];done)))
   simp(disch:=omega) only[go_sem,seval,reduceCtorEq]
   (refine Next.drop (mkB 88 154742504910671434850776576) (by omega) (h1:= ?_) (h2:= ?_)<;>first | (simp only[go_sem,seval,reduceCtorEq,nz,na,n1,hnx];first | done | rfl) | rfl | skip)
 ·have d1:¬ (k:Int)<A:=by omega
  obtain rfl:k=A:=by omega
  simp(disch:=omega) only[go_sem,seval,reduceCtorEq,d1]
  refine FnEnd.wk Wk.nogA ?_
  (refine zE ?_ ?_<;>try simp only[go_sem,seval,reduceCtorEq])
end Go.Proofs.YtneocijmbnhblaaGreat
