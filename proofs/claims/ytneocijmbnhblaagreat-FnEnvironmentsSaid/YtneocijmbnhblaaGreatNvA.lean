/-
 Contracts: the value of a network by its definition, by the reference. No condition.
-/
import Derived.Test.YtneocijmbnhblaaGreatMgEnvironmentsA
import Derived.Test.YtneocijmbnhblaaGreatStkA
import Derived.Test.YtneocijmbnhblaaGreatSemK
import Derived.Test.YtneocijmbnhblaaGreatGenH
set_option linter.unusedSimpArgs false
set_option linter.unusedVariables false
namespace Go.Proofs.YtneocijmbnhblaaGreat
open Go.RowKit Go.Lift Plain
set_option maxRecDepth 100000
section
variable {N : Net}
def labD (N:Net):List Int:=(Sem.aF N).map (dimN N.ts)
theorem te (h:br N=true):∀ d∈labD N,1≤d∧d≤8:=fun d hd=>by
 obtain⟨x,hx,rfl⟩:=List.mem_map.1 hd
 have h1:=(Sem.eF h).1 hx
 have h2:=gW (cR h) x
 omega
theorem xp (N:Net) {q:Nat} (hq:q<(Sem.aF N).length):(labD N).getD q 0=dimN N.ts (Sem.aF N)[q]:=by
 rw[ao (by simpa [labD]using hq)]
 simp [labD]
theorem Ae (h:br N=true) {t:Ten} (ht:t∈N.ts) {n:Nat} (hp:ab t.dims=n):InOk t.labels t.dims (Sem.aF N) (labD N) n:=by
 have hok:=(ay.1 h).2.2.1 t ht
 obtain⟨wd,n',e1,e2,e3,e4,e5,e6,e7,e8,e9,e10⟩:=cD hok
 refine⟨e10,hp,by omega,Sem.fI N,fun x hx=>Sem.fY h ht hx,by simp [labD],te h,fun q hq hm=> ?_⟩
 rw[xp N hq, ← gE h ht hm]
 rfl
theorem Cf (h:br N=true):∃ n:Nat,InOk N.os (N.os.map (dimN N.ts)) (Sem.aF N) (labD N) n:=by
 have hax:=Sem.zP h
 have h0:=(ay.1 h).2.2.2.2
 have hp0:=bi (N.os.map (dimN N.ts)) fun d hd=>(hax.dim d hd).1
 rcases d9 N.os (N.os.map (dimN N.ts))with h1 | ⟨_,h2,_,_⟩
 ·exact absurd h1 h0
 ·refine⟨(ab (N.os.map (dimN N.ts))).toNat,hax,by omega,by omega,Sem.fI N,Sem.ow h,by simp [labD],te h,fun q hq hm=> ?_⟩
  rw[xp N hq]
  obtain⟨k,hk,e1,e2,_⟩:=eE hm
  have:aE ⟨N.os,N.os.map (dimN N.ts),[]⟩ (Sem.aF N)[q]=(N.os.map (dimN N.ts)).getD k 0:=by
   unfold aE
   simp only
   rw[e1];rfl
  rw[this,ao (by simpa using hk),List.getElem_map,e2]
theorem InOk.offs {ls ds L D:List Int} {n:Nat} (h:InOk ls ds L D n) (i:Nat):offs ds (ls.map (atL L (an D i)))=bN ls ds L D i:=by
 have h1:=l9 h.ax.len (bG h.ax) h.nodup h.sup (xs:=an D i) (by simp [bg,h.dl])
 rw[← h1]
 exact(h.off i).1
theorem AE {ls ds is:List Int} (h:axOk ls ds) (hi:oC ds is):Sz 1099511627776 is:=by
 have hl:=hi.1
 have h12:=h.1
 have hdl:=h.len
 refine⟨by omega,fun x hx=> ?_⟩
 obtain⟨q,hq,rfl⟩:=List.getElem_of_mem hx
 have hq':q<ds.length:=by omega
 have h1:=hi.2 q hq'
 have h2:=h.dim ds[q] (List.getElem_mem hq')
 unfold oD at h1
 rw[ao hq,ao hq']at h1
 unfold I64;omega
def wgtT (N:Net) (wd k j:Nat):List Int:=(N.ts.take j).foldl (fun acc t=>mulE N.rg acc (cutE t.data wd (bN t.labels t.dims (Sem.aF N) (labD N) k))) (oneE N.rg wd)
theorem rF {wd k j:Nat} (hj:j<N.ts.length):wgtT N wd k (j+1)=mulE N.rg (wgtT N wd k j) (cutE N.ts[j].data wd (bN N.ts[j].labels N.ts[j].dims (Sem.aF N) (labD N) k)):=by
 unfold wgtT
 rw[bm hj,List.foldl_append]
 rfl
theorem pC (wd k:Nat):wgtT N wd k N.ts.length=Sem.wgtI N wd k:=by
 unfold wgtT
 rw[List.take_length]
 rfl
theorem p8 (h:br N=true) {wd:Nat} (hw:ar N.rg=wd) (k:Nat):∀ j,j≤N.ts.length→(wgtT N wd k j).length=wd∧fits N.rg (wgtT N wd k j)
 | 0,_=>⟨dF _ _,(El.unit (ay.1 h).1 hw).fit⟩
 | j+1,hj=>by
  obtain⟨h1,h2⟩:=p8 h hw k j (by omega)
  have hmem:N.ts[j]∈N.ts:=List.getElem_mem (by omega)
  obtain⟨wd',n,e1,e2,e3,e4,e5,e6,e7,e8,e9,e10⟩:=cD ((ay.1 h).2.2.1 _ hmem)
  obtain rfl:wd=wd':=by omega
  have hi:=Ae h hmem e2
  have hl:=dH e7 (hi.off k).2
  rw[rF (by omega)]
  exact⟨(eu e9 hw h2 (dn e8 _ _) h1 hl).1,ns e9 hw h2 (dn e8 _ _) h1 hl⟩
end
theorem Ct {kk pp nn:Int} {wd:Nat} (hr:aq ⟨kk,pp,nn⟩=true) (hw:ar ⟨kk,pp,nn⟩=wd) (h1:1≤wd∧wd≤6):Does Tryz.prog 111 [bn kk pp nn] [] (.d (ints (oneE ⟨kk,pp,nn⟩ wd))) []:=by
 have h:=s8 hr hw h1
 have hl:=dF ⟨kk,pp,nn⟩ wd
 generalize oneE ⟨kk,pp,nn⟩ wd=e at*
 subst hl
 exact h.fzI
theorem Cs {x wd:Nat} {kk pp nn:Int} {t:Ten} (hw:ar ⟨kk,pp,nn⟩=(wd:Int)) (h1:wd≤6) (hx:x*wd+wd≤t.data.length) (hx2:x≤1099511627776) (h:t.data.length≤1099511627776):
  Does Tryz.prog 83 [bn kk pp nn,tenA t,.d (.int x)] [] (.d (ints (cutE t.data wd x))) []:=by
 have h:=qe hw h1 hx hx2 h
 have hl:=ep hx
 unfold cutE
 generalize (t.data.drop (x*wd)).take wd=e at*
 rw[← hl]at h
 exact h.fzI
theorem Cu {kk pp nn:Int} {x y:List Int} {wd:Nat} (hr:aq ⟨kk,pp,nn⟩=true) (hw:ar ⟨kk,pp,nn⟩=wd) (hx:fits ⟨kk,pp,nn⟩ x) (hy:fits ⟨kk,pp,nn⟩ y) (lx:x.length=wd) (ly:y.length=wd):
  Does Tryz.prog 118 [bn kk pp nn,.d (ints x),.d (ints y)] [] (.d (ints (mulE ⟨kk,pp,nn⟩ x y))) []:=by
 have h:=Au hr hw hx hy lx ly
 have hl:=(eu hr hw hx hy lx ly).1
 generalize mulE ⟨kk,pp,nn⟩ x y=e at*
 rw[← hl]at h
 exact h.fzI
theorem yo {ds:List Int} {n:Int} (hd:∀ d∈ds,1≤d∧d≤1000) (hl:ds.length≤1048576) (h0:0≤n∧n≤1152921504606846976):
  Does Tryz.prog 82 [.d (ints ds),.d (.int n)] [] (.d (ints (an ds n))) []:=by
 have h:=qd hd hl h0
 have hl:=bg ds n
 generalize an ds n=e at*
 rw[← hl]at h
 exact h.fzI
theorem v4 {ts:List Ten} {L:List Int} (h:ts.length≤1048576) (ht:∀ t∈ts,TSz 1048576 t) (hax:d7 ts) (hL:L.length≤1048576):
  Does Tryz.prog 96 [.d (tens ts),.d (ints L)] [] (.d (ints (L.map (dimN ts)))) []:=by
 have h:=s6 h ht hax hL
 have hl:(L.map (dimN ts)).length=L.length:=List.length_map _
 generalize L.map (dimN ts)=e at*
 rw[← hl]at h
 exact h.fzI
theorem w9 {ts:List Ten} (h:ts.length≤1048576) (ht:∀ t∈ts,TSz 1048576 t) (hax:d7 ts):Does Tryz.prog 65 [.d (tens ts)] [] (.d (ints (bp (labP ts) 100))) []:=(oz h ht hax).fzI
set_option maxHeartbeats 1600000 in
theorem uZ {N:Net} (hok:br N=true) (hz:NSz 1048576 N) {wd:Nat} (hw:ar N.rg=wd) (k:Nat):
  Does Tryz.prog 98 [netA N,.d (ints (Sem.aF N)),.d (ints (an (labD N) k))] [] (.d (ints (Sem.wgtI N wd k))) []:=by
 have hr:=(ay.1 hok).1
 have hr':aq ⟨N.k,N.p,N.n⟩=true:=hr
 have hw':ar ⟨N.k,N.p,N.n⟩=wd:=hw
 have hwb:=wd6 hr hw
 have hnl:=hz.l
 have hLl:(Sem.aF N).length≤100:=iV _ _
 have hX:(an (labD N) k).length=(Sem.aF N).length:=by rw[bg];simp [labD]
 have hT0:wgtT N wd k 0=oneE N.rg wd:=rfl
 have hTa:=pC (N:=N) wd k
 (refine spec_of (by kernel_rfl) Tryz.func98 nE (fnOk (nb rfl) ?_);unfold C_spec_l12Weight)
 (simp only[Nat.reduceSub,List.length_cons,List.length_nil,Nat.reduceAdd,am,al,aj,ai,ah,af,ae,ac];try simp only[au]);(simp only[go_sem,seval,reduceCtorEq,List.replicate])
 (refine aa (Ct hr' hw' hwb) ?_ ?_ ?_;(focus (simp only[go_sem,seval,reduceCtorEq];done));(first | rfl | (focus (simp only[go_sem];done))))
 simp only[go_sem,seval,reduceCtorEq]
 refine aZ (N.ts.length) (mkB 55 18014398508439040) (fun j=>[(19,.d (.int j)),(7,.d (ints (wgtT N wd k j)))]) (fun j=>[]) (h1:=by first | (simp only[go_sem,seval,reduceCtorEq,nz,na,n1,hT0];first | done | rfl) | rfl) (h2:=by first | (simp only[go_sem,seval,reduceCtorEq,nz,na,n1,hT0];first | done | rfl) | rfl) (hr:=fun j hj=> ?_)
 unfold L1_spec_l12Weight
 by_cases hlt:j<N.ts.length
 ·have d1:(j:Int)<N.ts.length:=by omega
  have g3:=dd (List.getElem?_eq_getElem hlt)
  have hmem:=List.getElem_mem hlt
  obtain⟨wd',n,e1,e2,e3,e4,e5,e6,e7,e8,e9,e10⟩:=cD ((ay.1 hok).2.2.1 _ hmem)
  obtain rfl:wd=wd':=by omega
  have hi:=Ae hok hmem e2
  have hst:=hz.t N.ts[j] hmem
  have hsl:=hst.l.len
  have hxl:=hst.x.len
  have hal:=e10.1
  obtain⟨w1,w2⟩:=p8 hok hw k j (by omega)
  have hn:=rF (N:=N) (wd:=wd) (k:=k) hlt
  have hof:=hi.offs k
  have hcl:=dH e7 (hi.off k).2
  have hcut:=hi.cut e7 k
  have hofl:=(hi.off k).2
  simp(disch:=omega) only[go_sem,seval,reduceCtorEq,d1,g3]
  refine⟨by omega, ?_⟩
  refine aZ (N.ts[j].labels.length) (mkB 55 2198763212800) (fun q=>[(10,.own 2 0 q),(27,.d (.int q))]) (fun q=>[(2,iv ((N.ts[j].labels.take q).map (atL (Sem.aF N) (an (labD N) k))))]) (h1:=by first | (simp only[go_sem,seval,reduceCtorEq,nz,na,n1,List.take_zero,List.map_nil,bL];first | done | rfl) | rfl) (h2:=by first | (simp only[go_sem,seval,reduceCtorEq,nz,na,n1,List.take_zero,List.map_nil,bL];first | done | rfl) | rfl) (hr:=fun q hq=> ?_)
  unfold L0_spec_l12Weight
  by_cases hlq:q<N.ts[j].labels.length
  ·have d2:(q:Int)<N.ts[j].labels.length:=by omega
   have g:N.ts[j].labels[q]? =some N.ts[j].labels[q]:=List.getElem?_eq_getElem hlq
   obtain⟨p,hp,p1,p2,_⟩:=eE (hi.sup _ (List.getElem_mem hlq))
   have d3:(p:Int)<(an (labD N) k).length:=by omega
   have gX:(an (labD N) k)[p]? =some (atL (Sem.aF N) (an (labD N) k) N.ts[j].labels[q]):=by
    unfold atL
    rw[p1,Int.toNat_natCast,ao (by omega)]
    exact List.getElem?_eq_getElem (by omega)
   simp(disch:=omega) only[go_sem,seval,reduceCtorEq,d2,g]
   (refine aa (fZ (xs:=Sem.aF N) (x:=N.ts[j].labels[q]) (by omega)) ?_ ?_ ?_;(focus (simp only[go_sem,seval,reduceCtorEq];done));(first | rfl | (focus (simp only[go_sem];done))))
   have hrow:(N.ts[j].labels.take (q+1)).map (atL (Sem.aF N) (an (labD N) k))=(N.ts[j].labels.take q).map (atL (Sem.aF N) (an (labD N) k))++[atL (Sem.aF N) (an (labD N) k) N.ts[j].labels[q]]:=by rw[bm hlq,List.map_append];rfl
   have hrl:((N.ts[j].labels.take q).map (atL (Sem.aF N) (an (labD N) k))).length=q:=by simp;omega
   simp(disch:=omega) only[go_sem,seval,reduceCtorEq,p1,d3,gX,hrl]
   (repeat (refine And.intro (by omega) ?_))
   (refine Next.drop (mkB 55 2198763212800) (by omega) (h1:= ?_) (h2:= ?_)<;>first | (simp only[go_sem,seval,reduceCtorEq,nz,na,n1,hrow];first | done | rfl) | rfl | skip)
  ·have d2:¬ (q:Int)<N.ts[j].labels.length:=by omega
   obtain rfl:q=N.ts[j].labels.length:=by omega
   have hml:(N.ts[j].labels.map (atL (Sem.aF N) (an (labD N) k))).length=N.ts[j].labels.length:=List.length_map _
   have tI:List.take N.ts[j].labels.length (N.ts[j].labels.map (atL (Sem.aF N) (an (labD N) k)))=N.ts[j].labels.map (atL (Sem.aF N) (an (labD N) k)):=List.take_of_length_le (by omega)
   have hix:=hi.idx k
   have hod:=e10.dim
   have hIz:Sz 1099511627776 (N.ts[j].labels.map (atL (Sem.aF N) (an (labD N) k))):=AE e10 hix
   simp(disch:=omega) only[go_sem,seval,reduceCtorEq,d2,List.take_length]
   (refine aC (jP (ds:=N.ts[j].dims) (is:=N.ts[j].labels.map (atL (Sem.aF N) (an (labD N) k))) hst.d.up hIz hix hod (by omega)) ?_ ?_ ?_;(focus (simp only[go_sem,seval,reduceCtorEq,hml,tI];done));(first | rfl | (focus (simp only[go_sem];done))))
   simp only[go_sem,seval,reduceCtorEq,hof]
   (refine aC (Cs (kk:=N.k) (pp:=N.p) (nn:=N.n) (t:=N.ts[j]) (x:=bN N.ts[j].labels N.ts[j].dims (Sem.aF N) (labD N) k) hw' hwb.2 hcut (by omega) (by omega)) ?_ ?_ ?_;(focus (simp only[go_sem,seval,reduceCtorEq];done));(first | rfl | (focus (simp only[go_sem];done))))
   simp only[go_sem,seval,reduceCtorEq]
   (refine aa (Cu (kk:=N.k) (pp:=N.p) (nn:=N.n) hr' hw' w2 (dn e8 _ _) w1 hcl) ?_ ?_ ?_;(focus (simp only[go_sem,seval,reduceCtorEq];done));(first | rfl | (focus (simp only[go_sem];done))))
   simp(disch:=omega) only[go_sem,seval,reduceCtorEq]
   (refine Next.drop (mkB 55 18014398508439040) (by omega) (h1:= ?_) (h2:= ?_)<;>first | (simp only[go_sem,seval,reduceCtorEq,nz,na,n1,hn];first | done | rfl) | rfl | skip)
 ·have d1:¬ (j:Int)<N.ts.length:=by omega
  obtain rfl:j=N.ts.length:=by omega
  simp(disch:=omega) only[go_sem,seval,reduceCtorEq,d1,hTa]
  (refine FnEnd.mk (nb rfl) rfl (of_decide_eq_true rfl) ?_ ?_<;>try simp only[go_sem,seval,reduceCtorEq])
set_option maxHeartbeats 3200000 in
theorem NetworkValue_d {N:Net} (hN:Gen6 N) {wd:Nat} (hw:ar N.rg=wd):
  Does Tryz.prog 45 [netA N] [] (.tup [tenA (Sem.nvR N wd),.d (.bool true)]) []:=by
 have hok:=hN.ok
 have hz:=hN.sz
 have hax:=cR hok
 have hr:=(ay.1 hok).1
 have hr':aq ⟨N.k,N.p,N.n⟩=true:=hr
 have hw':ar ⟨N.k,N.p,N.n⟩=wd:=hw
 have hwb:=wd6 hr hw
 have hol:=hz.o.len
 have hLl:(Sem.aF N).length≤100:=iV _ _
 have hDl:(labD N).length=(Sem.aF N).length:=by simp [labD]
 have hDb:=te hok
 obtain⟨n,hi⟩:=Cf hok
 have hpn:=hi.pn
 have hn1:=hi.n1
 have hod:=hi.ax.dim
 have hpD:1≤ab (labD N)∧ab (labD N)≤729:=by
  have h6:Sem.L6 (Sem.aF N):=Sem.xn hN
  have hd:labD N=Sem.bQ Sem.d6 (Sem.aF N):=List.map_congr_left fun x hx=>by rw[← Sem.jf hok x,Sem.vB hN hx]
  rw[hd]
  exact Sem.ni (Sem.fI N) h6
 obtain⟨A,hA⟩:=Int.eq_ofNat_of_zero_le (a:=ab (labD N)) (by omega)
 have hmn:min (ab (labD N)) 65537=(A:Int):=by omega
 have hosl:(N.os.map (dimN N.ts)).length=N.os.length:=List.length_map _
 have hzl:=bO N.k N.p wd
 have hrl:(repE (aJ N.k N.p wd) n).length=n*wd:=by rw[dh,hzl]
 have hnw:n*wd≤4096*6:=Nat.mul_le_mul hn1.2 hwb.2
 have hY:∀ k,(Sem.nvTo N wd (repE (aJ N.k N.p wd) n) k).length=n*wd∧fits N.rg (Sem.nvTo N wd (repE (aJ N.k N.p wd) n) k):=fun k=>by
  induction k with
  | zero=>exact⟨hrl,eo fun x hx=>eN (eU hr) x (lX n x hx)⟩
  | succ k ih=>
   obtain⟨i1,i2⟩:=ih
   have hcut:=hi.cut i1 k
   have hwt:=p8 hok hw k N.ts.length (Nat.le_refl _)
   rw[pC]at hwt
   have hl:=eR (r:=N.rg) (ep hcut) hwt.1
   have hO:Sem.nvO N k=bN N.os (N.os.map (dimN N.ts)) (Sem.aF N) (labD N) k:=rfl
   rw[Sem.nvTo,hO]
   exact⟨(bM (by rw[hl];exact hcut)).trans i1,kA i2 (o9 hr (eO i2 _ _) hwt.2)⟩
 have hY0:Sem.nvTo N wd (repE (aJ N.k N.p wd) n) 0=repE (aJ N.k N.p wd) n:=rfl
 have hfin:Sem.nvR N wd=⟨N.os,N.os.map (dimN N.ts),Sem.nvTo N wd (repE (aJ N.k N.p wd) n) A⟩:=by
  have e1:bf (N.os.map (dimN N.ts))=n:=by unfold bf;omega
  have e2:bf ((Sem.aF N).map (dimN N.ts))=A:=by unfold bf;rw[show (Sem.aF N).map (dimN N.ts)=labD N from rfl];omega
  unfold Sem.nvR
  rw[e1,e2]
  rfl
 have hlb:Does Tryz.prog 65 [.d (tens N.ts)] [] (.d (ints (Sem.aF N))) []:=w9 hz.l hz.t hax
 have hdm:Does Tryz.prog 96 [.d (tens N.ts),.d (ints (Sem.aF N))] [] (.d (ints (labD N))) []:=v4 hz.l hz.t hax (by omega)
 have hdo:=v4 (L:=N.os) hz.l hz.t hax hol
 have hfl:=(hY A).1
 have hnv:∀ k,Sem.nvTo N wd (repE (aJ N.k N.p wd) n) (k+1)=putE (Sem.nvTo N wd (repE (aJ N.k N.p wd) n) k) (bN N.os (N.os.map (dimN N.ts)) (Sem.aF N) (labD N) k*wd) (addE N.rg (cutE (Sem.nvTo N wd (repE (aJ N.k N.p wd) n) k) wd (bN N.os (N.os.map (dimN N.ts)) (Sem.aF N) (labD N) k)) (Sem.wgtI N wd k)):=fun k=>rfl
 rw[hfin]
 refine iH ?_
 simp only[ownT,stoF,hfl]
 generalize N.os.map (dimN N.ts)=OD at*
 (refine spec_of (by kernel_rfl) Tryz.func45 kP (fnOk (nb rfl) ?_);unfold C_spec_NetworkValue)
 (simp only[Nat.reduceSub,List.length_cons,List.length_nil,Nat.reduceAdd,am,al,aj,ai,ah,af,ae,ac];try simp only[au]);(simp only[go_sem,seval,reduceCtorEq,List.replicate])
 (refine aa (sR hz) ?_ ?_ ?_;(focus (simp only[go_sem,seval,reduceCtorEq];done));(first | rfl | (focus (simp only[go_sem];done))))
 simp only[go_sem,seval,reduceCtorEq,hok]
 (refine aa (hlb) ?_ ?_ ?_;(focus (simp only[go_sem,seval,reduceCtorEq];done));(first | rfl | (focus (simp only[go_sem];done))))
 simp only[go_sem,seval,reduceCtorEq]
 (refine aa (hdm) ?_ ?_ ?_;(focus (simp only[go_sem,seval,reduceCtorEq];done));(first | rfl | (focus (simp only[go_sem];done))))
 simp only[go_sem,seval,reduceCtorEq]
 (refine aa (dM (ds:=labD N) (lim:=65536) (by omega) (fun d hd=>by have:=hDb d hd;omega) (by omega)) ?_ ?_ ?_;(focus (simp only[go_sem,seval,reduceCtorEq,hmn];done));(first | rfl | (focus (simp only[go_sem];done))))
 have c1:¬ (A:Int)>65536:=by omega
 simp(disch:=omega) only[go_sem,seval,reduceCtorEq,hmn,c1]
 (refine aC (hdo) ?_ ?_ ?_;(focus (simp only[go_sem,seval,reduceCtorEq];done));(first | rfl | (focus (simp only[go_sem];done))))
 simp only[go_sem,seval,reduceCtorEq]
 (refine aC (nA (kk:=N.k) (pp:=N.p) (nn:=N.n) (ls:=N.os) (ds:=OD) hw' hwb hol (by omega) (fun d hd=>by have:=hod d hd;omega) hpn hn1.2) ?_ ?_ ?_;(focus (simp only[go_sem,seval,reduceCtorEq];done));(first | rfl | (focus (simp only[go_sem];done))))
 simp(disch:=omega) only[go_sem,seval,reduceCtorEq,hrl]
 refine aZ (A) (mkB 88 154742504910671434850776576) (fun k=>[(8,.d (.int k))]) (fun k=>[(4,iv (Sem.nvTo N wd (repE (aJ N.k N.p wd) n) k))]) (h1:=by first | (simp only[go_sem,seval,reduceCtorEq,nz,na,n1,hY0];first | done | rfl) | rfl) (h2:=by first | (simp only[go_sem,seval,reduceCtorEq,nz,na,n1,hY0];first | done | rfl) | rfl) (hr:=fun k hk=> ?_)
 unfold L1_spec_NetworkValue
 by_cases hlt:k<A
 ·have d1:(k:Int)<A:=by omega
  obtain⟨y1,y2⟩:=hY k
  have hX:(an (labD N) k).length=(Sem.aF N).length:=by rw[bg,hDl]
  have hof:=hi.offs k
  have hofl:=(hi.off k).2
  have hcut:=hi.cut y1 k
  have hwt:=p8 hok hw k N.ts.length (Nat.le_refl _)
  rw[pC]at hwt
  obtain⟨w1,w2⟩:=hwt
  have hnx:=hnv k
  simp(disch:=omega) only[go_sem,seval,reduceCtorEq,d1]
  (refine aa (yo (ds:=labD N) (n:=(k:Int)) (fun d hd=>by have:=hDb d hd;omega) (by omega) (by omega)) ?_ ?_ ?_;(focus (simp only[go_sem,seval,reduceCtorEq];done));(first | rfl | (focus (simp only[go_sem];done))))
  simp(disch:=omega) only[go_sem,seval,reduceCtorEq]
  refine aZ (N.os.length) (mkB 88 73778250570560180224) (fun q=>[(10,.own 6 0 q),(52,.d (.int q))]) (fun q=>[(6,iv ((N.os.take q).map (atL (Sem.aF N) (an (labD N) k))))]) (h1:=by first | (simp only[go_sem,seval,reduceCtorEq,nz,na,n1,List.take_zero,List.map_nil,bL];first | done | rfl) | rfl) (h2:=by first | (simp only[go_sem,seval,reduceCtorEq,nz,na,n1,List.take_zero,List.map_nil,bL];first | done | rfl) | rfl) (hr:=fun q hq=> ?_)
  unfold L0_spec_NetworkValue
  by_cases hlq:q<N.os.length
  ·have d2:(q:Int)<N.os.length:=by omega
   have g:N.os[q]? =some N.os[q]:=List.getElem?_eq_getElem hlq
   obtain⟨p,hp,p1,p2,_⟩:=eE (hi.sup _ (List.getElem_mem hlq))
   have d3:(p:Int)<(an (labD N) k).length:=by omega
   have gX:(an (labD N) k)[p]? =some (atL (Sem.aF N) (an (labD N) k) N.os[q]):=by
    unfold atL
    rw[p1,Int.toNat_natCast,ao (by omega)]
    exact List.getElem?_eq_getElem (by omega)
   simp(disch:=omega) only[go_sem,seval,reduceCtorEq,d2,g]
   (refine aa (fZ (xs:=Sem.aF N) (x:=N.os[q]) (by omega)) ?_ ?_ ?_;(focus (simp only[go_sem,seval,reduceCtorEq];done));(first | rfl | (focus (simp only[go_sem];done))))
   have hrow:(N.os.take (q+1)).map (atL (Sem.aF N) (an (labD N) k))=(N.os.take q).map (atL (Sem.aF N) (an (labD N) k))++[atL (Sem.aF N) (an (labD N) k) N.os[q]]:=by rw[bm hlq,List.map_append];rfl
   have hrl2:((N.os.take q).map (atL (Sem.aF N) (an (labD N) k))).length=q:=by simp;omega
   simp(disch:=omega) only[go_sem,seval,reduceCtorEq,p1,d3,gX,hrl2]
   (repeat (refine And.intro (by omega) ?_))
   (refine Next.drop (mkB 88 73778250570560180224) (by omega) (h1:= ?_) (h2:= ?_)<;>first | (simp only[go_sem,seval,reduceCtorEq,nz,na,n1,hrow];first | done | rfl) | rfl | skip)
  ·have d2:¬ (q:Int)<N.os.length:=by omega
   obtain rfl:q=N.os.length:=by omega
   have hml:(N.os.map (atL (Sem.aF N) (an (labD N) k))).length=N.os.length:=List.length_map _
   have hix:=hi.idx k
   have hIz:Sz 1099511627776 (N.os.map (atL (Sem.aF N) (an (labD N) k))):=AE hi.ax hix
   have hOz:Sz 1099511627776 OD:=⟨by omega,fun x hx=>by have:=hod x hx;unfold I64;omega⟩
   simp(disch:=omega) only[go_sem,seval,reduceCtorEq,d2,List.take_length]
   generalize N.os.map (atL (Sem.aF N) (an (labD N) k))=IX at*
   generalize Sem.nvTo N wd (repE (aJ N.k N.p wd) n) k=Y at*
   have tI:List.take N.os.length IX=IX:=List.take_of_length_le (by omega)
   have tY:List.take (n*wd) Y=Y:=List.take_of_length_le (by omega)
   have tO:List.take OD.length OD=OD:=List.take_length
   (refine aa (jP (ds:=OD) (is:=IX) hOz hIz hix hod (by omega)) ?_ ?_ ?_;(focus (simp only[go_sem,seval,reduceCtorEq,hml,tI,tO];done));(first | rfl | (focus (simp only[go_sem];done))))
   simp only[go_sem,seval,reduceCtorEq,hof]
   have lo1:=ep hcut
   have hal:=eR (r:=N.rg) lo1 w1
   have hpl:=bM (xs:=Y) (off:=bN N.os OD (Sem.aF N) (labD N) k*wd) (ys:=addE N.rg ((Y.drop (bN N.os OD (Sem.aF N) (labD N) k*wd)).take wd) (Sem.wgtI N wd k)) (by omega)
   (refine aC (qe (kk:=N.k) (pp:=N.p) (nn:=N.n) (t:=⟨N.os,OD,Y⟩) (x:=bN N.os OD (Sem.aF N) (labD N) k) hw' hwb.2 hcut (by omega) (by show Y.length≤_;omega)) ?_ ?_ ?_;(focus (simp only[go_sem,seval,reduceCtorEq,y1,tY,tO];done));(first | rfl | (focus (simp only[go_sem];done))))
   simp only[go_sem,seval,reduceCtorEq]
   (refine aC (uZ hok hz hw k) ?_ ?_ ?_;(focus (simp only[go_sem,seval,reduceCtorEq];done));(first | rfl | (focus (simp only[go_sem];done))))
   simp only[go_sem,seval,reduceCtorEq]
   (refine aC (Av (kk:=N.k) (pp:=N.p) (nn:=N.n) hr' hw' (eO y2 _ _) w2 lo1 w1) ?_ ?_ ?_;(focus (simp only[go_sem,seval,reduceCtorEq,lo1,List.take_take,Nat.min_self];done));(first | rfl | (focus (simp only[go_sem];done))))
   simp only[go_sem,seval,reduceCtorEq]
   rw[show (⟨N.k,N.p,N.n⟩:Rg)=N.rg from rfl]
   unfold cutE at hnx
   generalize addE N.rg ((Y.drop (bN N.os OD (Sem.aF N) (labD N) k*wd)).take wd) (Sem.wgtI N wd k)=Z at*
   have tZ:List.take wd Z=Z:=List.take_of_length_le (by omega)
   (refine dU [2,3,4] false (nB (kk:=N.k) (pp:=N.p) (nn:=N.n) (ca:=N.os) (cb:=OD) (cc:=Y) (l:=N.os.length) (d:=OD.length) (m:=n*wd) (x:=bN N.os OD (Sem.aF N) (labD N) k) (ys:=Z) rfl rfl y1.symm hw' hal hwb (by omega) (by omega) (by omega)) (of_decide_eq_true rfl) ?_ ?_ ?_ ?_ (of_decide_eq_true rfl) ?_;(focus (simp only[go_sem,seval,reduceCtorEq,hpl,y1,tZ,hal];done));(focus (simp only[go_sem,seval,reduceCtorEq];done));(focus (simp only[go_sem,seval,reduceCtorEq,hpl,y1,tZ,hal];done));(focus (simp only[go_sem,seval,reduceCtorEq];done)))
   simp(disch:=omega) only[go_sem,seval,reduceCtorEq]
   (refine Next.drop (mkB 88 154742504910671434850776576) (by omega) (h1:= ?_) (h2:= ?_)<;>first | (simp only[go_sem,seval,reduceCtorEq,nz,na,n1,hnx];first | done | rfl) | rfl | skip)
 ·have d1:¬ (k:Int)<A:=by omega
  obtain rfl:k=A:=by omega
  simp(disch:=omega) only[go_sem,seval,reduceCtorEq,d1]
  refine FnEnd.wk Wk.nogA ?_
  (refine FnEnd.mk (nb rfl) rfl (of_decide_eq_true rfl) ?_ ?_<;>try simp only[go_sem,seval,reduceCtorEq])
end Go.Proofs.YtneocijmbnhblaaGreat
