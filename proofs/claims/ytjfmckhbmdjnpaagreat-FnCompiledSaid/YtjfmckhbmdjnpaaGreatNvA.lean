/-
 Contracts: the value of a network by its definition, by the reference. No condition.
-/
import Derived.Test.YtjfmckhbmdjnpaaGreatMgCompiledA
import Derived.Test.YtjfmckhbmdjnpaaGreatStkA
import Derived.Test.YtjfmckhbmdjnpaaGreatSemK
import Derived.Test.YtjfmckhbmdjnpaaGreatGenH
set_option linter.unusedSimpArgs false
set_option linter.unusedVariables false
namespace Go.Proofs.YtjfmckhbmdjnpaaGreat
open Go.RowKit Go.Lift Plain
set_option maxRecDepth 100000
section
variable {N : Net}
def labD (N:Net):List Int:=(Sem.au N).map (dimN N.ts)
theorem z6 (h:bp N=true):∀ d∈labD N,1≤d∧d≤8:=fun d hd=>by
 obtain⟨x,hx,rfl⟩:=List.mem_map.1 hd
 have h1:=(Sem.eI h).1 hx
 have h2:=kE (bZ h) x
 omega
theorem D3 (N:Net) {q:Nat} (hq:q<(Sem.au N).length):(labD N).getD q 0=dimN N.ts (Sem.au N)[q]:=by
 rw[ae (by simpa [labD]using hq)]
 simp [labD]
theorem G5 (h:bp N=true) {t:Ten} (ht:t∈N.ts) {n:Nat} (hp:aa t.dims=n):InOk t.labels t.dims (Sem.au N) (labD N) n:=by
 have hok:=(an.1 h).2.2.1 t ht
 obtain⟨wd,n',e1,e2,e3,e4,e5,e6,e7,e8,e9,e10⟩:=eD hok
 refine⟨e10,hp,by omega,Sem.jg N,fun x hx=>Sem.iT h ht hx,by simp [labD],z6 h,fun q hq hm=> ?_⟩
 rw[D3 N hq, ← jp h ht hm]
 rfl
theorem Io (h:bp N=true):∃ n:Nat,InOk N.os (N.os.map (dimN N.ts)) (Sem.au N) (labD N) n:=by
 have hax:=Sem.FN h
 have h0:=(an.1 h).2.2.2.2
 have hp0:=bf (N.os.map (dimN N.ts)) fun d hd=>(hax.dim d hd).1
 rcases da N.os (N.os.map (dimN N.ts))with h1 | ⟨_,h2,_,_⟩
 ·exact absurd h1 h0
 ·refine⟨(aa (N.os.map (dimN N.ts))).toNat,hax,by omega,by omega,Sem.jg N,Sem.xL h,by simp [labD],z6 h,fun q hq hm=> ?_⟩
  rw[D3 N hq]
  obtain⟨k,hk,e1,e2,_⟩:=iC hm
  have:ar ⟨N.os,N.os.map (dimN N.ts),[]⟩ (Sem.au N)[q]=(N.os.map (dimN N.ts)).getD k 0:=by
   unfold ar
   simp only
   rw[e1];rfl
  rw[this,ae (by simpa using hk),List.getElem_map,e2]
theorem InOk.offs {ls ds L D:List Int} {n:Nat} (h:InOk ls ds L D n) (i:Nat):offs ds (ls.map (atL L (ac D i)))=bH ls ds L D i:=by
 have h1:=qO h.ax.len (bI h.ax) h.nodup h.sup (xs:=ac D i) (by simp [be,h.dl])
 rw[← h1]
 exact(h.off i).1
theorem Gz {ls ds is:List Int} (h:axOk ls ds) (hi:uk ds is):Sz 1099511627776 is:=by
 have hl:=hi.1
 have h12:=h.1
 have hdl:=h.len
 refine⟨by omega,fun x hx=> ?_⟩
 obtain⟨q,hq,rfl⟩:=List.getElem_of_mem hx
 have hq':q<ds.length:=by omega
 have h1:=hi.2 q hq'
 have h2:=h.dim ds[q] (List.getElem_mem hq')
 unfold ww at h1
 rw[ae hq,ae hq']at h1
 unfold I64;omega
def wgtT (N:Net) (wd k j:Nat):List Int:=(N.ts.take j).foldl (fun acc t=>mulE N.rg acc (cutE t.data wd (bH t.labels t.dims (Sem.au N) (labD N) k))) (oneE N.rg wd)
theorem xw {wd k j:Nat} (hj:j<N.ts.length):wgtT N wd k (j+1)=mulE N.rg (wgtT N wd k j) (cutE N.ts[j].data wd (bH N.ts[j].labels N.ts[j].dims (Sem.au N) (labD N) k)):=by
 unfold wgtT
 rw[bb hj,List.foldl_append]
 rfl
theorem vh (wd k:Nat):wgtT N wd k N.ts.length=Sem.wgtI N wd k:=by
 unfold wgtT
 rw[List.take_length]
 rfl
theorem uM (h:bp N=true) {wd:Nat} (hw:ai N.rg=wd) (k:Nat):∀ j,j≤N.ts.length→(wgtT N wd k j).length=wd∧fits N.rg (wgtT N wd k j)
 | 0,_=>⟨gK _ _,(El.unit (an.1 h).1 hw).fit⟩
 | j+1,hj=>by
  obtain⟨h1,h2⟩:=uM h hw k j (by omega)
  have hmem:N.ts[j]∈N.ts:=List.getElem_mem (by omega)
  obtain⟨wd',n,e1,e2,e3,e4,e5,e6,e7,e8,e9,e10⟩:=eD ((an.1 h).2.2.1 _ hmem)
  obtain rfl:wd=wd':=by omega
  have hi:=G5 h hmem e2
  have hl:=oR e7 (hi.off k).2
  rw[xw (by omega)]
  exact⟨(fP e9 hw h2 (eK e8 _ _) h1 hl).1,t7 e9 hw h2 (eK e8 _ _) h1 hl⟩
end
theorem IF {kk pp nn:Int} {wd:Nat} (hr:ah ⟨kk,pp,nn⟩=true) (hw:ai ⟨kk,pp,nn⟩=wd) (h1:1≤wd∧wd≤6):Does Tryz.prog 123 [bo kk pp nn] [] (.d (ints (oneE ⟨kk,pp,nn⟩ wd))) []:=by
 have h:=y3 hr hw h1
 have hl:=gK ⟨kk,pp,nn⟩ wd
 generalize oneE ⟨kk,pp,nn⟩ wd=e at*
 subst hl
 exact h.fzI
theorem IE {x wd:Nat} {kk pp nn:Int} {t:Ten} (hw:ai ⟨kk,pp,nn⟩=(wd:Int)) (h1:wd≤6) (hx:x*wd+wd≤t.data.length) (hx2:x≤1099511627776) (h:t.data.length≤1099511627776):
  Does Tryz.prog 98 [bo kk pp nn,tenA t,.d (.int x)] [] (.d (ints (cutE t.data wd x))) []:=by
 have h:=AU hw h1 hx hx2 h
 have hl:=gg hx
 unfold cutE
 generalize (t.data.drop (x*wd)).take wd=e at*
 rw[← hl]at h
 exact h.fzI
theorem IG {kk pp nn:Int} {x y:List Int} {wd:Nat} (hr:ah ⟨kk,pp,nn⟩=true) (hw:ai ⟨kk,pp,nn⟩=wd) (hx:fits ⟨kk,pp,nn⟩ x) (hy:fits ⟨kk,pp,nn⟩ y) (lx:x.length=wd) (ly:y.length=wd):
  Does Tryz.prog 124 [bo kk pp nn,.d (ints x),.d (ints y)] [] (.d (ints (mulE ⟨kk,pp,nn⟩ x y))) []:=by
 have h:=Gr hr hw hx hy lx ly
 have hl:=(fP hr hw hx hy lx ly).1
 generalize mulE ⟨kk,pp,nn⟩ x y=e at*
 rw[← hl]at h
 exact h.fzI
theorem Ed {ds:List Int} {n:Int} (hd:∀ d∈ds,1≤d∧d≤1000) (hl:ds.length≤1048576) (h0:0≤n∧n≤1152921504606846976):
  Does Tryz.prog 93 [.d (ints ds),.d (.int n)] [] (.d (ints (ac ds n))) []:=by
 have h:=BT hd hl h0
 have hl:=be ds n
 generalize ac ds n=e at*
 rw[← hl]at h
 exact h.fzI
theorem AR {ts:List Ten} {L:List Int} (h:ts.length≤1048576) (ht:∀ t∈ts,TSz 1048576 t) (hax:d7 ts) (hL:L.length≤1048576):
  Does Tryz.prog 90 [.d (tens ts),.d (ints L)] [] (.d (ints (L.map (dimN ts)))) []:=by
 have h:=xW h ht hax hL
 have hl:(L.map (dimN ts)).length=L.length:=List.length_map _
 generalize L.map (dimN ts)=e at*
 rw[← hl]at h
 exact h.fzI
theorem BS {ts:List Ten} (h:ts.length≤1048576) (ht:∀ t∈ts,TSz 1048576 t) (hax:d7 ts):Does Tryz.prog 70 [.d (tens ts)] [] (.d (ints (bg (labP ts) 100))) []:=(uf h ht hax).fzI
set_option maxHeartbeats 1600000 in
theorem AQ {N:Net} (hok:bp N=true) (hz:NSz 1048576 N) {wd:Nat} (hw:ai N.rg=wd) (k:Nat):
  Does Tryz.prog 99 [netA N,.d (ints (Sem.au N)),.d (ints (ac (labD N) k))] [] (.d (ints (Sem.wgtI N wd k))) []:=by
 have hr:=(an.1 hok).1
 have hr':ah ⟨N.k,N.p,N.n⟩=true:=hr
 have hw':ai ⟨N.k,N.p,N.n⟩=wd:=hw
 have hwb:=wd6 hr hw
 have hnl:=hz.l
 have hLl:(Sem.au N).length≤100:=mD _ _
 have hX:(ac (labD N) k).length=(Sem.au N).length:=by rw[be];simp [labD]
 have hT0:wgtT N wd k 0=oneE N.rg wd:=rfl
 have hTa:=vh (N:=N) wd k
 (refine spec_of (by kernel_rfl) Tryz.func99 tg (fnOk (nb rfl) ?_);unfold m8)
 (simp only[Nat.reduceSub,Zl,zn,Nat.reduceAdd,zF];try simp only[af]);(simp only[go_sem,seval,reduceCtorEq,List.replicate])
 (refine zC (IF hr' hw' hwb) ?_)
 simp only[go_sem,seval,reduceCtorEq]
 refine aP (N.ts.length) (mkB 55 18014398508439040) (fun j=>[(19,.d (.int j)),(7,.d (ints (wgtT N wd k j)))]) (fun j=>[]) (h1:=by first | (simp only[go_sem,seval,reduceCtorEq,nz,na,n1,hT0];first | done | rfl) | rfl) (h2:=by first | (simp only[go_sem,seval,reduceCtorEq,nz,na,n1,hT0];first | done | rfl) | rfl) (hr:=fun j hj=> ?_)
 unfold kH
 by_cases hlt:j<N.ts.length
 ·have d1:(j:Int)<N.ts.length:=by omega
  have g3:=iu (zg hlt)
  have hmem:=List.getElem_mem hlt
  obtain⟨wd',n,e1,e2,e3,e4,e5,e6,e7,e8,e9,e10⟩:=eD ((an.1 hok).2.2.1 _ hmem)
  obtain rfl:wd=wd':=by omega
  have hi:=G5 hok hmem e2
  have hst:=hz.t N.ts[j] hmem
  have hsl:=hst.l.len
  have hxl:=hst.x.len
  have hal:=e10.1
  obtain⟨w1,w2⟩:=uM hok hw k j (by omega)
  have hn:=xw (N:=N) (wd:=wd) (k:=k) hlt
  have hof:=hi.offs k
  have hcl:=oR e7 (hi.off k).2
  have hcut:=hi.cut e7 k
  have hofl:=(hi.off k).2
  simp(disch:=omega) only[go_sem,seval,reduceCtorEq,d1,g3]
  refine⟨by omega, ?_⟩
  refine aP (N.ts[j].labels.length) (mkB 55 2198763212800) (fun q=>[(10,.own 2 0 q),(27,.d (.int q))]) (fun q=>[(2,iv ((N.ts[j].labels.take q).map (atL (Sem.au N) (ac (labD N) k))))]) (h1:=by first | (simp only[go_sem,seval,reduceCtorEq,nz,na,n1,List.take_zero,List.map_nil,cj];first | done | rfl) | rfl) (h2:=by first | (simp only[go_sem,seval,reduceCtorEq,nz,na,n1,List.take_zero,List.map_nil,cj];first | done | rfl) | rfl) (hr:=fun q hq=> ?_)
  unfold kO
  by_cases hlq:q<N.ts[j].labels.length
  ·have d2:(q:Int)<N.ts[j].labels.length:=by omega
   have g:N.ts[j].labels[q]? =some N.ts[j].labels[q]:=zg hlq
   obtain⟨p,hp,p1,p2,_⟩:=iC (hi.sup _ (List.getElem_mem hlq))
   have d3:(p:Int)<(ac (labD N) k).length:=by omega
   have gX:(ac (labD N) k)[p]? =some (atL (Sem.au N) (ac (labD N) k) N.ts[j].labels[q]):=by
    unfold atL
    rw[p1,Int.toNat_natCast,ae (by omega)]
    exact zg (by omega)
   simp(disch:=omega) only[go_sem,seval,reduceCtorEq,d2,g]
   (refine zC (lP (xs:=Sem.au N) (x:=N.ts[j].labels[q]) (by omega)) ?_)
   have hrow:(N.ts[j].labels.take (q+1)).map (atL (Sem.au N) (ac (labD N) k))=(N.ts[j].labels.take q).map (atL (Sem.au N) (ac (labD N) k))++[atL (Sem.au N) (ac (labD N) k) N.ts[j].labels[q]]:=by rw[bb hlq,List.map_append];rfl
   have hrl:((N.ts[j].labels.take q).map (atL (Sem.au N) (ac (labD N) k))).length=q:=by simp;omega
   simp(disch:=omega) only[go_sem,seval,reduceCtorEq,p1,d3,gX,hrl]
   (repeat (refine And.intro (by omega) ?_))
   (refine Next.drop (mkB 55 2198763212800) (by omega) (h1:= ?_) (h2:= ?_)<;>first | (simp only[go_sem,seval,reduceCtorEq,nz,na,n1,hrow];first | done | rfl) | rfl | skip)
  ·have d2:¬ (q:Int)<N.ts[j].labels.length:=by omega
   obtain rfl:q=N.ts[j].labels.length:=by omega
   have hml:(N.ts[j].labels.map (atL (Sem.au N) (ac (labD N) k))).length=N.ts[j].labels.length:=List.length_map _
   have tI:List.take N.ts[j].labels.length (N.ts[j].labels.map (atL (Sem.au N) (ac (labD N) k)))=N.ts[j].labels.map (atL (Sem.au N) (ac (labD N) k)):=zt (by omega)
   have hix:=hi.idx k
   have hod:=e10.dim
   have hIz:Sz 1099511627776 (N.ts[j].labels.map (atL (Sem.au N) (ac (labD N) k))):=Gz e10 hix
   simp(disch:=omega) only[go_sem,seval,reduceCtorEq,d2,List.take_length]
   (refine cE (ug (ds:=N.ts[j].dims) (is:=N.ts[j].labels.map (atL (Sem.au N) (ac (labD N) k))) hst.d.up hIz hix hod (by omega)) ?_ ?_ ?_;(focus (simp only[go_sem,seval,reduceCtorEq,hml,tI];done));(first | rfl | (focus (simp only[go_sem];done))))
   simp only[go_sem,seval,reduceCtorEq,hof]
   (refine zD (IE (kk:=N.k) (pp:=N.p) (nn:=N.n) (t:=N.ts[j]) (x:=bH N.ts[j].labels N.ts[j].dims (Sem.au N) (labD N) k) hw' hwb.2 hcut (by omega) (by omega)) ?_)
   simp only[go_sem,seval,reduceCtorEq]
   (refine zC (IG (kk:=N.k) (pp:=N.p) (nn:=N.n) hr' hw' w2 (eK e8 _ _) w1 hcl) ?_)
   simp(disch:=omega) only[go_sem,seval,reduceCtorEq]
   (refine Next.drop (mkB 55 18014398508439040) (by omega) (h1:= ?_) (h2:= ?_)<;>first | (simp only[go_sem,seval,reduceCtorEq,nz,na,n1,hn];first | done | rfl) | rfl | skip)
 ·have d1:¬ (j:Int)<N.ts.length:=by omega
  obtain rfl:j=N.ts.length:=by omega
  simp(disch:=omega) only[go_sem,seval,reduceCtorEq,d1,hTa]
  (refine zE ?_ ?_<;>try simp only[go_sem,seval,reduceCtorEq])
set_option maxHeartbeats 3200000 in
theorem NetworkValue_d {N:Net} (hN:Gen6 N) {wd:Nat} (hw:ai N.rg=wd):
  Does Tryz.prog 46 [netA N] [] (.tup [tenA (Sem.nvR N wd),.d (.bool true)]) []:=by
 have hok:=hN.ok
 have hz:=hN.sz
 have hax:=bZ hok
 have hr:=(an.1 hok).1
 have hr':ah ⟨N.k,N.p,N.n⟩=true:=hr
 have hw':ai ⟨N.k,N.p,N.n⟩=wd:=hw
 have hwb:=wd6 hr hw
 have hol:=hz.o.len
 have hLl:(Sem.au N).length≤100:=mD _ _
 have hDl:(labD N).length=(Sem.au N).length:=by simp [labD]
 have hDb:=z6 hok
 obtain⟨n,hi⟩:=Io hok
 have hpn:=hi.pn
 have hn1:=hi.n1
 have hod:=hi.ax.dim
 have hpD:1≤aa (labD N)∧aa (labD N)≤729:=by
  have h6:Sem.L6 (Sem.au N):=Sem.Gm hN
  have hd:labD N=Sem.bQ Sem.d6 (Sem.au N):=List.map_congr_left fun x hx=>by rw[← Sem.mX hok x,Sem.Bi hN hx]
  rw[hd]
  exact Sem.sZ (Sem.jg N) h6
 obtain⟨A,hA⟩:=Int.eq_ofNat_of_zero_le (a:=aa (labD N)) (by omega)
 have hmn:min (aa (labD N)) 65537=(A:Int):=by omega
 have hosl:(N.os.map (dimN N.ts)).length=N.os.length:=List.length_map _
 have hzl:=bR N.k N.p wd
 have hrl:(repE (az N.k N.p wd) n).length=n*wd:=by rw[dY,hzl]
 have hnw:n*wd≤4096*6:=Nat.mul_le_mul hn1.2 hwb.2
 have hY:∀ k,(Sem.nvTo N wd (repE (az N.k N.p wd) n) k).length=n*wd∧fits N.rg (Sem.nvTo N wd (repE (az N.k N.p wd) n) k):=fun k=>by
  induction k with
  | zero=>exact⟨hrl,ge fun x hx=>jm (j4 hr) x (vu n x hx)⟩
  | succ k ih=>
   obtain⟨i1,i2⟩:=ih
   have hcut:=hi.cut i1 k
   have hwt:=uM hok hw k N.ts.length (Nat.le_refl _)
   rw[vh]at hwt
   have hl:=jr (r:=N.rg) (gg hcut) hwt.1
   have hO:Sem.nvO N k=bH N.os (N.os.map (dimN N.ts)) (Sem.au N) (labD N) k:=rfl
   rw[Sem.nvTo,hO]
   exact⟨(bX (by rw[hl];exact hcut)).trans i1,sY i2 (u5 hr (jn i2 _ _) hwt.2)⟩
 have hY0:Sem.nvTo N wd (repE (az N.k N.p wd) n) 0=repE (az N.k N.p wd) n:=rfl
 have hfin:Sem.nvR N wd=⟨N.os,N.os.map (dimN N.ts),Sem.nvTo N wd (repE (az N.k N.p wd) n) A⟩:=by
  have e1:dC (N.os.map (dimN N.ts))=n:=by unfold dC;omega
  have e2:dC ((Sem.au N).map (dimN N.ts))=A:=by unfold dC;rw[show (Sem.au N).map (dimN N.ts)=labD N from rfl];omega
  unfold Sem.nvR
  rw[e1,e2]
  rfl
 have hlb:Does Tryz.prog 70 [.d (tens N.ts)] [] (.d (ints (Sem.au N))) []:=BS hz.l hz.t hax
 have hdm:Does Tryz.prog 90 [.d (tens N.ts),.d (ints (Sem.au N))] [] (.d (ints (labD N))) []:=AR hz.l hz.t hax (by omega)
 have hdo:=AR (L:=N.os) hz.l hz.t hax hol
 have hfl:=(hY A).1
 have hnv:∀ k,Sem.nvTo N wd (repE (az N.k N.p wd) n) (k+1)=putE (Sem.nvTo N wd (repE (az N.k N.p wd) n) k) (bH N.os (N.os.map (dimN N.ts)) (Sem.au N) (labD N) k*wd) (addE N.rg (cutE (Sem.nvTo N wd (repE (az N.k N.p wd) n) k) wd (bH N.os (N.os.map (dimN N.ts)) (Sem.au N) (labD N) k)) (Sem.wgtI N wd k)):=fun k=>rfl
 rw[hfin]
 refine wI ?_
 simp only[ownT,stoF,hfl]
 generalize N.os.map (dimN N.ts)=OD at*
 (refine spec_of (by kernel_rfl) Tryz.func46 qa (fnOk (nb rfl) ?_);unfold il)
 (simp only[Nat.reduceSub,Zl,zn,Nat.reduceAdd,zF];try simp only[af]);(simp only[go_sem,seval,reduceCtorEq,List.replicate])
 (refine zC (yH hz) ?_)
 simp only[go_sem,seval,reduceCtorEq,hok]
 (refine zC (hlb) ?_)
 simp only[go_sem,seval,reduceCtorEq]
 (refine zC (hdm) ?_)
 simp only[go_sem,seval,reduceCtorEq]
 (refine aA (ix (ds:=labD N) (lim:=65536) (by omega) (fun d hd=>by have:=hDb d hd;omega) (by omega)) ?_ ?_ ?_;(focus (simp only[go_sem,seval,reduceCtorEq,hmn];done));(first | rfl | (focus (simp only[go_sem];done))))
 have c1:¬ (A:Int)>65536:=by omega
 simp(disch:=omega) only[go_sem,seval,reduceCtorEq,hmn,c1]
 (refine zD (hdo) ?_)
 simp only[go_sem,seval,reduceCtorEq]
 (refine zD (xX (kk:=N.k) (pp:=N.p) (nn:=N.n) (ls:=N.os) (ds:=OD) hw' hwb hol (by omega) (fun d hd=>by have:=hod d hd;omega) hpn hn1.2) ?_)
 simp(disch:=omega) only[go_sem,seval,reduceCtorEq,hrl]
 refine aP (A) (mkB 88 154742504910671434850776576) (fun k=>[(8,.d (.int k))]) (fun k=>[(4,iv (Sem.nvTo N wd (repE (az N.k N.p wd) n) k))]) (h1:=by first | (simp only[go_sem,seval,reduceCtorEq,nz,na,n1,hY0];first | done | rfl) | rfl) (h2:=by first | (simp only[go_sem,seval,reduceCtorEq,nz,na,n1,hY0];first | done | rfl) | rfl) (hr:=fun k hk=> ?_)
 unfold gT
 by_cases hlt:k<A
 ·have d1:(k:Int)<A:=by omega
  obtain⟨y1,y2⟩:=hY k
  have hX:(ac (labD N) k).length=(Sem.au N).length:=by rw[be,hDl]
  have hof:=hi.offs k
  have hofl:=(hi.off k).2
  have hcut:=hi.cut y1 k
  have hwt:=uM hok hw k N.ts.length (Nat.le_refl _)
  rw[vh]at hwt
  obtain⟨w1,w2⟩:=hwt
  have hnx:=hnv k
  simp(disch:=omega) only[go_sem,seval,reduceCtorEq,d1]
  (refine zC (Ed (ds:=labD N) (n:=(k:Int)) (fun d hd=>by have:=hDb d hd;omega) (by omega) (by omega)) ?_)
  simp(disch:=omega) only[go_sem,seval,reduceCtorEq]
  refine aP (N.os.length) (mkB 88 73778250570560180224) (fun q=>[(10,.own 6 0 q),(52,.d (.int q))]) (fun q=>[(6,iv ((N.os.take q).map (atL (Sem.au N) (ac (labD N) k))))]) (h1:=by first | (simp only[go_sem,seval,reduceCtorEq,nz,na,n1,List.take_zero,List.map_nil,cj];first | done | rfl) | rfl) (h2:=by first | (simp only[go_sem,seval,reduceCtorEq,nz,na,n1,List.take_zero,List.map_nil,cj];first | done | rfl) | rfl) (hr:=fun q hq=> ?_)
  unfold gW
  by_cases hlq:q<N.os.length
  ·have d2:(q:Int)<N.os.length:=by omega
   have g:N.os[q]? =some N.os[q]:=zg hlq
   obtain⟨p,hp,p1,p2,_⟩:=iC (hi.sup _ (List.getElem_mem hlq))
   have d3:(p:Int)<(ac (labD N) k).length:=by omega
   have gX:(ac (labD N) k)[p]? =some (atL (Sem.au N) (ac (labD N) k) N.os[q]):=by
    unfold atL
    rw[p1,Int.toNat_natCast,ae (by omega)]
    exact zg (by omega)
   simp(disch:=omega) only[go_sem,seval,reduceCtorEq,d2,g]
   (refine zC (lP (xs:=Sem.au N) (x:=N.os[q]) (by omega)) ?_)
   have hrow:(N.os.take (q+1)).map (atL (Sem.au N) (ac (labD N) k))=(N.os.take q).map (atL (Sem.au N) (ac (labD N) k))++[atL (Sem.au N) (ac (labD N) k) N.os[q]]:=by rw[bb hlq,List.map_append];rfl
   have hrl2:((N.os.take q).map (atL (Sem.au N) (ac (labD N) k))).length=q:=by simp;omega
   simp(disch:=omega) only[go_sem,seval,reduceCtorEq,p1,d3,gX,hrl2]
   (repeat (refine And.intro (by omega) ?_))
   (refine Next.drop (mkB 88 73778250570560180224) (by omega) (h1:= ?_) (h2:= ?_)<;>first | (simp only[go_sem,seval,reduceCtorEq,nz,na,n1,hrow];first | done | rfl) | rfl | skip)
  ·have d2:¬ (q:Int)<N.os.length:=by omega
   obtain rfl:q=N.os.length:=by omega
   have hml:(N.os.map (atL (Sem.au N) (ac (labD N) k))).length=N.os.length:=List.length_map _
   have hix:=hi.idx k
   have hIz:Sz 1099511627776 (N.os.map (atL (Sem.au N) (ac (labD N) k))):=Gz hi.ax hix
   have hOz:Sz 1099511627776 OD:=⟨by omega,fun x hx=>by have:=hod x hx;unfold I64;omega⟩
   simp(disch:=omega) only[go_sem,seval,reduceCtorEq,d2,List.take_length]
   generalize N.os.map (atL (Sem.au N) (ac (labD N) k))=IX at*
   generalize Sem.nvTo N wd (repE (az N.k N.p wd) n) k=Y at*
   have tI:List.take N.os.length IX=IX:=zt (by omega)
   have tY:List.take (n*wd) Y=Y:=zt (by omega)
   have tO:List.take OD.length OD=OD:=List.take_length
   (refine aA (ug (ds:=OD) (is:=IX) hOz hIz hix hod (by omega)) ?_ ?_ ?_;(focus (simp only[go_sem,seval,reduceCtorEq,hml,tI,tO];done));(first | rfl | (focus (simp only[go_sem];done))))
   simp only[go_sem,seval,reduceCtorEq,hof]
   have lo1:=gg hcut
   have hal:=jr (r:=N.rg) lo1 w1
   have hpl:=bX (xs:=Y) (off:=bH N.os OD (Sem.au N) (labD N) k*wd) (ys:=addE N.rg ((Y.drop (bH N.os OD (Sem.au N) (labD N) k*wd)).take wd) (Sem.wgtI N wd k)) (by omega)
   (refine cE (AU (kk:=N.k) (pp:=N.p) (nn:=N.n) (t:=⟨N.os,OD,Y⟩) (x:=bH N.os OD (Sem.au N) (labD N) k) hw' hwb.2 hcut (by omega) (by show Y.length≤_;omega)) ?_ ?_ ?_;(focus (simp only[go_sem,seval,reduceCtorEq,y1,tY,tO];done));(first | rfl | (focus (simp only[go_sem];done))))
   simp only[go_sem,seval,reduceCtorEq]
   (refine zD (AQ hok hz hw k) ?_)
   simp only[go_sem,seval,reduceCtorEq]
   (refine cE (Gs (kk:=N.k) (pp:=N.p) (nn:=N.n) hr' hw' (jn y2 _ _) w2 lo1 w1) ?_ ?_ ?_;(focus (simp only[go_sem,seval,reduceCtorEq,lo1,List.take_take,Nat.min_self];done));(first | rfl | (focus (simp only[go_sem];done))))
   simp only[go_sem,seval,reduceCtorEq]
   rw[show (⟨N.k,N.p,N.n⟩:Rg)=N.rg from rfl]
   unfold cutE at hnx
   generalize addE N.rg ((Y.drop (bH N.os OD (Sem.au N) (labD N) k*wd)).take wd) (Sem.wgtI N wd k)=Z at*
   have tZ:List.take wd Z=Z:=zt (by omega)
   (refine gr [2,3,4] false (xY (kk:=N.k) (pp:=N.p) (nn:=N.n) (ca:=N.os) (cb:=OD) (cc:=Y) (l:=N.os.length) (d:=OD.length) (m:=n*wd) (x:=bH N.os OD (Sem.au N) (labD N) k) (ys:=Z) rfl rfl y1.symm hw' hal hwb (by omega) (by omega) (by omega)) (zd rfl) ?_ ?_ ?_ ?_ (zd rfl) ?_;(focus (simp only[go_sem,seval,reduceCtorEq,hpl,y1,tZ,hal];done));(focus (simp only[go_sem,seval,reduceCtorEq];done));(focus (simp only[go_sem,seval,reduceCtorEq,hpl,y1,tZ,hal];done));(focus (simp only[go_sem,seval,reduceCtorEq];done)))
   simp(disch:=omega) only[go_sem,seval,reduceCtorEq]
   (refine Next.drop (mkB 88 154742504910671434850776576) (by omega) (h1:= ?_) (h2:= ?_)<;>first | (simp only[go_sem,seval,reduceCtorEq,nz,na,n1,hnx];first | done | rfl) | rfl | skip)
 ·have d1:¬ (k:Int)<A:=by omega
  obtain rfl:k=A:=by omega
  simp(disch:=omega) only[go_sem,seval,reduceCtorEq,d1]
  refine FnEnd.wk Wk.nogA ?_
  (refine zE ?_ ?_<;>try simp only[go_sem,seval,reduceCtorEq])
end Go.Proofs.YtjfmckhbmdjnpaaGreat
