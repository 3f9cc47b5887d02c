/-
 Contracts: the value of a network by its definition, by the reference. No condition.
-/
import Derived.Test.YtjfmckhbmdjnpaaGreatMgDecompositionsA
import Derived.Test.YtjfmckhbmdjnpaaGreatStkA
import Derived.Test.YtjfmckhbmdjnpaaGreatSemK
import Derived.Test.YtjfmckhbmdjnpaaGreatGenH
set_option linter.unusedSimpArgs false
set_option linter.unusedVariables false
namespace Go.Proofs.YtjfmckhbmdjnpaaGreat
open Go.RowKit Go.Lift Plain
set_option maxRecDepth 100000
section
variable {N : Net}
def labD (N:Net):List Int:=(Sem.aq N).map (dimN N.ts)
theorem xq (h:bn N=true):∀ d∈labD N,1≤d∧d≤8:=fun d hd=>by
 obtain⟨x,hx,rfl⟩:=List.mem_map.1 hd
 have h1:=(Sem.cf h).1 hx
 have h2:=jc (bS h) x
 omega
theorem Bo (N:Net) {q:Nat} (hq:q<(Sem.aq N).length):(labD N).getD q 0=dimN N.ts (Sem.aq N)[q]:=by
 rw[ab (by simpa [labD]using hq)]
 simp [labD]
theorem Ep (h:bn N=true) {t:Ten} (ht:t∈N.ts) {n:Nat} (hp:aa t.dims=n):InOk t.labels t.dims (Sem.aq N) (labD N) n:=by
 have hok:=(ay.1 h).2.2.1 t ht
 obtain⟨wd,n',e1,e2,e3,e4,e5,e6,e7,e8,e9,e10⟩:=dX hok
 refine⟨e10,hp,by omega,Sem.fH N,fun x hx=>Sem.dA h ht hx,by simp [labD],xq h,fun q hq hm=> ?_⟩
 rw[Bo N hq, ← lM h ht hm]
 rfl
theorem Gy (h:bn N=true):∃ n:Nat,InOk N.os (N.os.map (dimN N.ts)) (Sem.aq N) (labD N) n:=by
 have hax:=Sem.Eh h
 have h0:=(ay.1 h).2.2.2.2
 have hp0:=aW (N.os.map (dimN N.ts)) fun d hd=>(hax.dim d hd).1
 rcases cQ N.os (N.os.map (dimN N.ts))with h1 | ⟨_,h2,_,_⟩
 ·exact absurd h1 h0
 ·refine⟨(aa (N.os.map (dimN N.ts))).toNat,hax,by omega,by omega,Sem.fH N,Sem.sf h,by simp [labD],xq h,fun q hq hm=> ?_⟩
  rw[Bo N hq]
  obtain⟨k,hk,e1,e2,_⟩:=gk hm
  have:ar ⟨N.os,N.os.map (dimN N.ts),[]⟩ (Sem.aq N)[q]=(N.os.map (dimN N.ts)).getD k 0:=by
   unfold ar
   simp only
   rw[e1];rfl
  rw[this,ab (by simpa using hk),List.getElem_map,e2]
theorem InOk.offs {ls ds L D:List Int} {n:Nat} (h:InOk ls ds L D n) (i:Nat):offs ds (ls.map (atL L (ac D i)))=bw ls ds L D i:=by
 have h1:=pu h.ax.len (bX h.ax) h.nodup h.sup (xs:=ac D i) (by simp [aZ,h.dl])
 rw[← h1]
 exact(h.off i).1
theorem EO {ls ds is:List Int} (h:axOk ls ds) (hi:sp ds is):Sz 1099511627776 is:=by
 have hl:=hi.1
 have h12:=h.1
 have hdl:=h.len
 refine⟨by omega,fun x hx=> ?_⟩
 obtain⟨q,hq,rfl⟩:=List.getElem_of_mem hx
 have hq':q<ds.length:=by omega
 have h1:=hi.2 q hq'
 have h2:=h.dim ds[q] (List.getElem_mem hq')
 unfold uM at h1
 rw[ab hq,ab hq']at h1
 unfold I64;omega
def wgtT (N:Net) (wd k j:Nat):List Int:=(N.ts.take j).foldl (fun acc t=>mulE N.rg acc (cutE t.data wd (bw t.labels t.dims (Sem.aq N) (labD N) k))) (oneE N.rg wd)
theorem vP {wd k j:Nat} (hj:j<N.ts.length):wgtT N wd k (j+1)=mulE N.rg (wgtT N wd k j) (cutE N.ts[j].data wd (bw N.ts[j].labels N.ts[j].dims (Sem.aq N) (labD N) k)):=by
 unfold wgtT
 rw[bb hj,List.foldl_append]
 rfl
theorem tD (wd k:Nat):wgtT N wd k N.ts.length=Sem.wgtI N wd k:=by
 unfold wgtT
 rw[List.take_length]
 rfl
theorem sX (h:bn N=true) {wd:Nat} (hw:ah N.rg=wd) (k:Nat):∀ j,j≤N.ts.length→(wgtT N wd k j).length=wd∧fits N.rg (wgtT N wd k j)
 | 0,_=>⟨fE _ _,(El.unit (ay.1 h).1 hw).fit⟩
 | j+1,hj=>by
  obtain⟨h1,h2⟩:=sX h hw k j (by omega)
  have hmem:N.ts[j]∈N.ts:=List.getElem_mem (by omega)
  obtain⟨wd',n,e1,e2,e3,e4,e5,e6,e7,e8,e9,e10⟩:=dX ((ay.1 h).2.2.1 _ hmem)
  obtain rfl:wd=wd':=by omega
  have hi:=Ep h hmem e2
  have hl:=nj e7 (hi.off k).2
  rw[vP (by omega)]
  exact⟨(eZ e9 hw h2 (eh e8 _ _) h1 hl).1,re e9 hw h2 (eh e8 _ _) h1 hl⟩
end
theorem GR {kk pp nn:Int} {wd:Nat} (hr:ae ⟨kk,pp,nn⟩=true) (hw:ah ⟨kk,pp,nn⟩=wd) (h1:1≤wd∧wd≤6):Does Tryz.prog 123 [bm kk pp nn] [] (.d (ints (oneE ⟨kk,pp,nn⟩ wd))) []:=by
 have h:=wu hr hw h1
 have hl:=fE ⟨kk,pp,nn⟩ wd
 generalize oneE ⟨kk,pp,nn⟩ wd=e at*
 subst hl
 exact h.fzI
theorem GQ {x wd:Nat} {kk pp nn:Int} {t:Ten} (hw:ah ⟨kk,pp,nn⟩=(wd:Int)) (h1:wd≤6) (hx:x*wd+wd≤t.data.length) (hx2:x≤1099511627776) (h:t.data.length≤1099511627776):
  Does Tryz.prog 98 [bm kk pp nn,tenA t,.d (.int x)] [] (.d (ints (cutE t.data wd x))) []:=by
 have h:=yU hw h1 hx hx2 h
 have hl:=fw hx
 unfold cutE
 generalize (t.data.drop (x*wd)).take wd=e at*
 rw[← hl]at h
 exact h.fzI
theorem GS {kk pp nn:Int} {x y:List Int} {wd:Nat} (hr:ae ⟨kk,pp,nn⟩=true) (hw:ah ⟨kk,pp,nn⟩=wd) (hx:fits ⟨kk,pp,nn⟩ x) (hy:fits ⟨kk,pp,nn⟩ y) (lx:x.length=wd) (ly:y.length=wd):
  Does Tryz.prog 124 [bm kk pp nn,.d (ints x),.d (ints y)] [] (.d (ints (mulE ⟨kk,pp,nn⟩ x y))) []:=by
 have h:=EE hr hw hx hy lx ly
 have hl:=(eZ hr hw hx hy lx ly).1
 generalize mulE ⟨kk,pp,nn⟩ x y=e at*
 rw[← hl]at h
 exact h.fzI
theorem CB {ds:List Int} {n:Int} (hd:∀ d∈ds,1≤d∧d≤1000) (hl:ds.length≤1048576) (h0:0≤n∧n≤1152921504606846976):
  Does Tryz.prog 93 [.d (ints ds),.d (.int n)] [] (.d (ints (ac ds n))) []:=by
 have h:=Am hd hl h0
 have hl:=aZ ds n
 generalize ac ds n=e at*
 rw[← hl]at h
 exact h.fzI
theorem yR {ts:List Ten} {L:List Int} (h:ts.length≤1048576) (ht:∀ t∈ts,TSz 1048576 t) (hax:cM ts) (hL:L.length≤1048576):
  Does Tryz.prog 90 [.d (tens ts),.d (ints L)] [] (.d (ints (L.map (dimN ts)))) []:=by
 have h:=wm h ht hax hL
 have hl:(L.map (dimN ts)).length=L.length:=List.length_map _
 generalize L.map (dimN ts)=e at*
 rw[← hl]at h
 exact h.fzI
theorem Al {ts:List Ten} (h:ts.length≤1048576) (ht:∀ t∈ts,TSz 1048576 t) (hax:cM ts):Does Tryz.prog 70 [.d (tens ts)] [] (.d (ints (am (labP ts) 100))) []:=(mQ h ht hax).fzI
set_option maxHeartbeats 1600000 in
theorem yQ {N:Net} (hok:bn N=true) (hz:NSz 1048576 N) {wd:Nat} (hw:ah N.rg=wd) (k:Nat):
  Does Tryz.prog 99 [netA N,.d (ints (Sem.aq N)),.d (ints (ac (labD N) k))] [] (.d (ints (Sem.wgtI N wd k))) []:=by
 have hr:=(ay.1 hok).1
 have hr':ae ⟨N.k,N.p,N.n⟩=true:=hr
 have hw':ah ⟨N.k,N.p,N.n⟩=wd:=hw
 have hwb:=wd6 hr hw
 have hnl:=hz.l
 have hLl:(Sem.aq N).length≤100:=cW _ _
 have hX:(ac (labD N) k).length=(Sem.aq N).length:=by rw[aZ];simp [labD]
 have hT0:wgtT N wd k 0=oneE N.rg wd:=rfl
 have hTa:=tD (N:=N) wd k
 (refine spec_of (by kernel_rfl) Tryz.func99 ro (fnOk (nb rfl) ?_);unfold kV)
 (simp only[Nat.reduceSub,Zl,zn,Nat.reduceAdd,zF];try simp only[af]);(simp only[go_sem,seval,reduceCtorEq,List.replicate])
 (refine zC (GR hr' hw' hwb) ?_)
 simp only[go_sem,seval,reduceCtorEq]
 refine aN (N.ts.length) (mkB 55 18014398508439040) (fun j=>[(19,.d (.int j)),(7,.d (ints (wgtT N wd k j)))]) (fun j=>[]) (h1:=by first | (simp only[go_sem,seval,reduceCtorEq,nz,na,n1,hT0];first | done | rfl) | rfl) (h2:=by first | (simp only[go_sem,seval,reduceCtorEq,nz,na,n1,hT0];first | done | rfl) | rfl) (hr:=fun j hj=> ?_)
 unfold jh
 by_cases hlt:j<N.ts.length
 ·have d1:(j:Int)<N.ts.length:=by omega
  have g3:=fj (zg hlt)
  have hmem:=List.getElem_mem hlt
  obtain⟨wd',n,e1,e2,e3,e4,e5,e6,e7,e8,e9,e10⟩:=dX ((ay.1 hok).2.2.1 _ hmem)
  obtain rfl:wd=wd':=by omega
  have hi:=Ep hok hmem e2
  have hst:=hz.t N.ts[j] hmem
  have hsl:=hst.l.len
  have hxl:=hst.x.len
  have hal:=e10.1
  obtain⟨w1,w2⟩:=sX hok hw k j (by omega)
  have hn:=vP (N:=N) (wd:=wd) (k:=k) hlt
  have hof:=hi.offs k
  have hcl:=nj e7 (hi.off k).2
  have hcut:=hi.cut e7 k
  have hofl:=(hi.off k).2
  simp(disch:=omega) only[go_sem,seval,reduceCtorEq,d1,g3]
  refine⟨by omega, ?_⟩
  refine aN (N.ts[j].labels.length) (mkB 55 2198763212800) (fun q=>[(10,.own 2 0 q),(27,.d (.int q))]) (fun q=>[(2,iv ((N.ts[j].labels.take q).map (atL (Sem.aq N) (ac (labD N) k))))]) (h1:=by first | (simp only[go_sem,seval,reduceCtorEq,nz,na,n1,List.take_zero,List.map_nil,bK];first | done | rfl) | rfl) (h2:=by first | (simp only[go_sem,seval,reduceCtorEq,nz,na,n1,List.take_zero,List.map_nil,bK];first | done | rfl) | rfl) (hr:=fun q hq=> ?_)
  unfold jn
  by_cases hlq:q<N.ts[j].labels.length
  ·have d2:(q:Int)<N.ts[j].labels.length:=by omega
   have g:N.ts[j].labels[q]? =some N.ts[j].labels[q]:=zg hlq
   obtain⟨p,hp,p1,p2,_⟩:=gk (hi.sup _ (List.getElem_mem hlq))
   have d3:(p:Int)<(ac (labD N) k).length:=by omega
   have gX:(ac (labD N) k)[p]? =some (atL (Sem.aq N) (ac (labD N) k) N.ts[j].labels[q]):=by
    unfold atL
    rw[p1,Int.toNat_natCast,ab (by omega)]
    exact zg (by omega)
   simp(disch:=omega) only[go_sem,seval,reduceCtorEq,d2,g]
   (refine zC (gr (xs:=Sem.aq N) (x:=N.ts[j].labels[q]) (by omega)) ?_)
   have hrow:(N.ts[j].labels.take (q+1)).map (atL (Sem.aq N) (ac (labD N) k))=(N.ts[j].labels.take q).map (atL (Sem.aq N) (ac (labD N) k))++[atL (Sem.aq N) (ac (labD N) k) N.ts[j].labels[q]]:=by rw[bb hlq,List.map_append];rfl
   have hrl:((N.ts[j].labels.take q).map (atL (Sem.aq N) (ac (labD N) k))).length=q:=by simp;omega
   simp(disch:=omega) only[go_sem,seval,reduceCtorEq,p1,d3,gX,hrl]
   (repeat (refine And.intro (by omega) ?_))
   (refine Next.drop (mkB 55 2198763212800) (by omega) (h1:= ?_) (h2:= ?_)<;>first | (simp only[go_sem,seval,reduceCtorEq,nz,na,n1,hrow];first | done | rfl) | rfl | skip)
  ·have d2:¬ (q:Int)<N.ts[j].labels.length:=by omega
   obtain rfl:q=N.ts[j].labels.length:=by omega
   have hml:(N.ts[j].labels.map (atL (Sem.aq N) (ac (labD N) k))).length=N.ts[j].labels.length:=List.length_map _
   have tI:List.take N.ts[j].labels.length (N.ts[j].labels.map (atL (Sem.aq N) (ac (labD N) k)))=N.ts[j].labels.map (atL (Sem.aq N) (ac (labD N) k)):=zt (by omega)
   have hix:=hi.idx k
   have hod:=e10.dim
   have hIz:Sz 1099511627776 (N.ts[j].labels.map (atL (Sem.aq N) (ac (labD N) k))):=EO e10 hix
   simp(disch:=omega) only[go_sem,seval,reduceCtorEq,d2,List.take_length]
   (refine dP (si (ds:=N.ts[j].dims) (is:=N.ts[j].labels.map (atL (Sem.aq N) (ac (labD N) k))) hst.d.up hIz hix hod (by omega)) ?_ ?_ ?_;(focus (simp only[go_sem,seval,reduceCtorEq,hml,tI];done));(first | rfl | (focus (simp only[go_sem];done))))
   simp only[go_sem,seval,reduceCtorEq,hof]
   (refine zD (GQ (kk:=N.k) (pp:=N.p) (nn:=N.n) (t:=N.ts[j]) (x:=bw N.ts[j].labels N.ts[j].dims (Sem.aq N) (labD N) k) hw' hwb.2 hcut (by omega) (by omega)) ?_)
   simp only[go_sem,seval,reduceCtorEq]
   (refine zC (GS (kk:=N.k) (pp:=N.p) (nn:=N.n) hr' hw' w2 (eh e8 _ _) w1 hcl) ?_)
   simp(disch:=omega) only[go_sem,seval,reduceCtorEq]
   (refine Next.drop (mkB 55 18014398508439040) (by omega) (h1:= ?_) (h2:= ?_)<;>first | (simp only[go_sem,seval,reduceCtorEq,nz,na,n1,hn];first | done | rfl) | rfl | skip)
 ·have d1:¬ (j:Int)<N.ts.length:=by omega
  obtain rfl:j=N.ts.length:=by omega
  simp(disch:=omega) only[go_sem,seval,reduceCtorEq,d1,hTa]
  (refine zE ?_ ?_<;>try simp only[go_sem,seval,reduceCtorEq])
set_option maxHeartbeats 3200000 in
theorem NetworkValue_d {N:Net} (hN:Gen6 N) {wd:Nat} (hw:ah N.rg=wd):
  Does Tryz.prog 46 [netA N] [] (.tup [tenA (Sem.nvR N wd),.d (.bool true)]) []:=by
 have hok:=hN.ok
 have hz:=hN.sz
 have hax:=bS hok
 have hr:=(ay.1 hok).1
 have hr':ae ⟨N.k,N.p,N.n⟩=true:=hr
 have hw':ah ⟨N.k,N.p,N.n⟩=wd:=hw
 have hwb:=wd6 hr hw
 have hol:=hz.o.len
 have hLl:(Sem.aq N).length≤100:=cW _ _
 have hDl:(labD N).length=(Sem.aq N).length:=by simp [labD]
 have hDb:=xq hok
 obtain⟨n,hi⟩:=Gy hok
 have hpn:=hi.pn
 have hn1:=hi.n1
 have hod:=hi.ax.dim
 have hpD:1≤aa (labD N)∧aa (labD N)≤729:=by
  have h6:Sem.L6 (Sem.aq N):=Sem.wl hN
  have hd:labD N=Sem.bD Sem.d6 (Sem.aq N):=List.map_congr_left fun x hx=>by rw[← Sem.lL hok x,Sem.Bz hN hx]
  rw[hd]
  exact Sem.rb (Sem.fH N) h6
 obtain⟨A,hA⟩:=Int.eq_ofNat_of_zero_le (a:=aa (labD N)) (by omega)
 have hmn:min (aa (labD N)) 65537=(A:Int):=by omega
 have hosl:(N.os.map (dimN N.ts)).length=N.os.length:=List.length_map _
 have hzl:=bI N.k N.p wd
 have hrl:(repE (aA N.k N.p wd) n).length=n*wd:=by rw[dJ,hzl]
 have hnw:n*wd≤4096*6:=Nat.mul_le_mul hn1.2 hwb.2
 have hY:∀ k,(Sem.nvTo N wd (repE (aA N.k N.p wd) n) k).length=n*wd∧fits N.rg (Sem.nvTo N wd (repE (aA N.k N.p wd) n) k):=fun k=>by
  induction k with
  | zero=>exact⟨hrl,fu fun x hx=>gV (gC hr) x (tT n x hx)⟩
  | succ k ih=>
   obtain⟨i1,i2⟩:=ih
   have hcut:=hi.cut i1 k
   have hwt:=sX hok hw k N.ts.length (Nat.le_refl _)
   rw[tD]at hwt
   have hl:=i6 (r:=N.rg) (fw hcut) hwt.1
   have hO:Sem.nvO N k=bw N.os (N.os.map (dimN N.ts)) (Sem.aq N) (labD N) k:=rfl
   rw[Sem.nvTo,hO]
   exact⟨(bQ (by rw[hl];exact hcut)).trans i1,ra i2 (s6 hr (gW i2 _ _) hwt.2)⟩
 have hY0:Sem.nvTo N wd (repE (aA N.k N.p wd) n) 0=repE (aA N.k N.p wd) n:=rfl
 have hfin:Sem.nvR N wd=⟨N.os,N.os.map (dimN N.ts),Sem.nvTo N wd (repE (aA N.k N.p wd) n) A⟩:=by
  have e1:bC (N.os.map (dimN N.ts))=n:=by unfold bC;omega
  have e2:bC ((Sem.aq N).map (dimN N.ts))=A:=by unfold bC;rw[show (Sem.aq N).map (dimN N.ts)=labD N from rfl];omega
  unfold Sem.nvR
  rw[e1,e2]
  rfl
 have hlb:Does Tryz.prog 70 [.d (tens N.ts)] [] (.d (ints (Sem.aq N))) []:=Al hz.l hz.t hax
 have hdm:Does Tryz.prog 90 [.d (tens N.ts),.d (ints (Sem.aq N))] [] (.d (ints (labD N))) []:=yR hz.l hz.t hax (by omega)
 have hdo:=yR (L:=N.os) hz.l hz.t hax hol
 have hfl:=(hY A).1
 have hnv:∀ k,Sem.nvTo N wd (repE (aA N.k N.p wd) n) (k+1)=putE (Sem.nvTo N wd (repE (aA N.k N.p wd) n) k) (bw N.os (N.os.map (dimN N.ts)) (Sem.aq N) (labD N) k*wd) (addE N.rg (cutE (Sem.nvTo N wd (repE (aA N.k N.p wd) n) k) wd (bw N.os (N.os.map (dimN N.ts)) (Sem.aq N) (labD N) k)) (Sem.wgtI N wd k)):=fun k=>rfl
 rw[hfin]
 refine uX ?_
 simp only[ownT,stoF,hfl]
 generalize N.os.map (dimN N.ts)=OD at*
 (refine spec_of (by kernel_rfl) Tryz.func46 oD (fnOk (nb rfl) ?_);unfold g7)
 (simp only[Nat.reduceSub,Zl,zn,Nat.reduceAdd,zF];try simp only[af]);(simp only[go_sem,seval,reduceCtorEq,List.replicate])
 (refine zC (xf hz) ?_)
 simp only[go_sem,seval,reduceCtorEq,hok]
 (refine zC (hlb) ?_)
 simp only[go_sem,seval,reduceCtorEq]
 (refine zC (hdm) ?_)
 simp only[go_sem,seval,reduceCtorEq]
 (refine aV (gf (ds:=labD N) (lim:=65536) (by omega) (fun d hd=>by have:=hDb d hd;omega) (by omega)) ?_ ?_ ?_;(focus (simp only[go_sem,seval,reduceCtorEq,hmn];done));(first | rfl | (focus (simp only[go_sem];done))))
 have c1:¬ (A:Int)>65536:=by omega
 simp(disch:=omega) only[go_sem,seval,reduceCtorEq,hmn,c1]
 (refine zD (hdo) ?_)
 simp only[go_sem,seval,reduceCtorEq]
 (refine zD (wn (kk:=N.k) (pp:=N.p) (nn:=N.n) (ls:=N.os) (ds:=OD) hw' hwb hol (by omega) (fun d hd=>by have:=hod d hd;omega) hpn hn1.2) ?_)
 simp(disch:=omega) only[go_sem,seval,reduceCtorEq,hrl]
 refine aN (A) (mkB 88 154742504910671434850776576) (fun k=>[(8,.d (.int k))]) (fun k=>[(4,iv (Sem.nvTo N wd (repE (aA N.k N.p wd) n) k))]) (h1:=by first | (simp only[go_sem,seval,reduceCtorEq,nz,na,n1,hY0];first | done | rfl) | rfl) (h2:=by first | (simp only[go_sem,seval,reduceCtorEq,nz,na,n1,hY0];first | done | rfl) | rfl) (hr:=fun k hk=> ?_)
 unfold fM
 by_cases hlt:k<A
 ·have d1:(k:Int)<A:=by omega
  obtain⟨y1,y2⟩:=hY k
  have hX:(ac (labD N) k).length=(Sem.aq N).length:=by rw[aZ,hDl]
  have hof:=hi.offs k
  have hofl:=(hi.off k).2
  have hcut:=hi.cut y1 k
  have hwt:=sX hok hw k N.ts.length (Nat.le_refl _)
  rw[tD]at hwt
  obtain⟨w1,w2⟩:=hwt
  have hnx:=hnv k
  simp(disch:=omega) only[go_sem,seval,reduceCtorEq,d1]
  (refine zC (CB (ds:=labD N) (n:=(k:Int)) (fun d hd=>by have:=hDb d hd;omega) (by omega) (by omega)) ?_)
  simp(disch:=omega) only[go_sem,seval,reduceCtorEq]
  refine aN (N.os.length) (mkB 88 73778250570560180224) (fun q=>[(10,.own 6 0 q),(52,.d (.int q))]) (fun q=>[(6,iv ((N.os.take q).map (atL (Sem.aq N) (ac (labD N) k))))]) (h1:=by first | (simp only[go_sem,seval,reduceCtorEq,nz,na,n1,List.take_zero,List.map_nil,bK];first | done | rfl) | rfl) (h2:=by first | (simp only[go_sem,seval,reduceCtorEq,nz,na,n1,List.take_zero,List.map_nil,bK];first | done | rfl) | rfl) (hr:=fun q hq=> ?_)
  unfold fO
  by_cases hlq:q<N.os.length
  ·have d2:(q:Int)<N.os.length:=by omega
   have g:N.os[q]? =some N.os[q]:=zg hlq
   obtain⟨p,hp,p1,p2,_⟩:=gk (hi.sup _ (List.getElem_mem hlq))
   have d3:(p:Int)<(ac (labD N) k).length:=by omega
   have gX:(ac (labD N) k)[p]? =some (atL (Sem.aq N) (ac (labD N) k) N.os[q]):=by
    unfold atL
    rw[p1,Int.toNat_natCast,ab (by omega)]
    exact zg (by omega)
   simp(disch:=omega) only[go_sem,seval,reduceCtorEq,d2,g]
   (refine zC (gr (xs:=Sem.aq N) (x:=N.os[q]) (by omega)) ?_)
   have hrow:(N.os.take (q+1)).map (atL (Sem.aq N) (ac (labD N) k))=(N.os.take q).map (atL (Sem.aq N) (ac (labD N) k))++[atL (Sem.aq N) (ac (labD N) k) N.os[q]]:=by rw[bb hlq,List.map_append];rfl
   have hrl2:((N.os.take q).map (atL (Sem.aq N) (ac (labD N) k))).length=q:=by simp;omega
   simp(disch:=omega) only[go_sem,seval,reduceCtorEq,p1,d3,gX,hrl2]
   (repeat (refine And.intro (by omega) ?_))
   (refine Next.drop (mkB 88 73778250570560180224) (by omega) (h1:= ?_) (h2:= ?_)<;>first | (simp only[go_sem,seval,reduceCtorEq,nz,na,n1,hrow];first | done | rfl) | rfl | skip)
  ·have d2:¬ (q:Int)<N.os.length:=by omega
   obtain rfl:q=N.os.length:=by omega
   have hml:(N.os.map (atL (Sem.aq N) (ac (labD N) k))).length=N.os.length:=List.length_map _
   have hix:=hi.idx k
   have hIz:Sz 1099511627776 (N.os.map (atL (Sem.aq N) (ac (labD N) k))):=EO hi.ax hix
   have hOz:Sz 1099511627776 OD:=⟨by omega,fun x hx=>by have:=hod x hx;unfold I64;omega⟩
   simp(disch:=omega) only[go_sem,seval,reduceCtorEq,d2,List.take_length]
   generalize N.os.map (atL (Sem.aq N) (ac (labD N) k))=IX at*
   generalize Sem.nvTo N wd (repE (aA N.k N.p wd) n) k=Y at*
   have tI:List.take N.os.length IX=IX:=zt (by omega)
   have tY:List.take (n*wd) Y=Y:=zt (by omega)
   have tO:List.take OD.length OD=OD:=List.take_length
   (refine aV (si (ds:=OD) (is:=IX) hOz hIz hix hod (by omega)) ?_ ?_ ?_;(focus (simp only[go_sem,seval,reduceCtorEq,hml,tI,tO];done));(first | rfl | (focus (simp only[go_sem];done))))
   simp only[go_sem,seval,reduceCtorEq,hof]
   have lo1:=fw hcut
   have hal:=i6 (r:=N.rg) lo1 w1
   have hpl:=bQ (xs:=Y) (off:=bw N.os OD (Sem.aq N) (labD N) k*wd) (ys:=addE N.rg ((Y.drop (bw N.os OD (Sem.aq N) (labD N) k*wd)).take wd) (Sem.wgtI N wd k)) (by omega)
   (refine dP (yU (kk:=N.k) (pp:=N.p) (nn:=N.n) (t:=⟨N.os,OD,Y⟩) (x:=bw N.os OD (Sem.aq N) (labD N) k) hw' hwb.2 hcut (by omega) (by show Y.length≤_;omega)) ?_ ?_ ?_;(focus (simp only[go_sem,seval,reduceCtorEq,y1,tY,tO];done));(first | rfl | (focus (simp only[go_sem];done))))
   simp only[go_sem,seval,reduceCtorEq]
   (refine zD (yQ hok hz hw k) ?_)
   simp only[go_sem,seval,reduceCtorEq]
   (refine dP (EF (kk:=N.k) (pp:=N.p) (nn:=N.n) hr' hw' (gW y2 _ _) w2 lo1 w1) ?_ ?_ ?_;(focus (simp only[go_sem,seval,reduceCtorEq,lo1,List.take_take,Nat.min_self];done));(first | rfl | (focus (simp only[go_sem];done))))
   simp only[go_sem,seval,reduceCtorEq]
   rw[show (⟨N.k,N.p,N.n⟩:Rg)=N.rg from rfl]
   unfold cutE at hnx
   generalize addE N.rg ((Y.drop (bw N.os OD (Sem.aq N) (labD N) k*wd)).take wd) (Sem.wgtI N wd k)=Z at*
   have tZ:List.take wd Z=Z:=zt (by omega)
   (refine eD [2,3,4] false (wq (kk:=N.k) (pp:=N.p) (nn:=N.n) (ca:=N.os) (cb:=OD) (cc:=Y) (l:=N.os.length) (d:=OD.length) (m:=n*wd) (x:=bw N.os OD (Sem.aq N) (labD N) k) (ys:=Z) rfl rfl y1.symm hw' hal hwb (by omega) (by omega) (by omega)) (zd rfl) ?_ ?_ ?_ ?_ (zd rfl) ?_;(focus (simp only[go_sem,seval,reduceCtorEq,hpl,y1,tZ,hal];done));(focus (simp only[go_sem,seval,reduceCtorEq];done));(focus (simp only[go_sem,seval,reduceCtorEq,hpl,y1,tZ,hal];done));(focus (simp only[go_sem,seval,reduceCtorEq];done)))
   simp(disch:=omega) only[go_sem,seval,reduceCtorEq]
   (refine Next.drop (mkB 88 154742504910671434850776576) (by omega) (h1:= ?_) (h2:= ?_)<;>first | (simp only[go_sem,seval,reduceCtorEq,nz,na,n1,hnx];first | done | rfl) | rfl | skip)
 ·have d1:¬ (k:Int)<A:=by omega
  obtain rfl:k=A:=by omega
  simp(disch:=omega) only[go_sem,seval,reduceCtorEq,d1]
  refine FnEnd.wk Wk.nogA ?_
  (refine zE ?_ ?_<;>try simp only[go_sem,seval,reduceCtorEq])
end Go.Proofs.YtjfmckhbmdjnpaaGreat
