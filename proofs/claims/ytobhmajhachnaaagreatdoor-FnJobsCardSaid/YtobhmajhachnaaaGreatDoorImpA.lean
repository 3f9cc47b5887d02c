/-
 Plain: orders completed by pairs of what is there; sorted orders. No condition.
-/
import Derived.Test.YtobhmajhachnaaaGreatDoorSemH
import Derived.Test.YtobhmajhachnaaaGreatDoorOrdB
import Derived.Test.YtobhmajhachnaaaGreatDoorGenH
import Derived.Test.YtobhmajhachnaaaGreatDoorMgJobsB
import Derived.Test.YtobhmajhachnaaaGreatDoorSlP
import Derived.Test.YtobhmajhachnaaaGreatDoorSemK
set_option linter.unusedSimpArgs false
set_option linter.unusedVariables false
namespace Go.Proofs.YtobhmajhachnaaaGreatDoor
open Go.RowKit Go.Lift Plain
section
variable {os F G : List Int} {s : Osd}
end
section
variable {N : Net} {n : Nat} {F : List Int}
structure Imp where
 F:List Int
 x:Int
end
end Go.Proofs.YtobhmajhachnaaaGreatDoor
namespace Go.Lift
theorem Does.fzSB{P:Program}{f:FuncId}{args:List AV}{g:Bool}{n e:Nat}{c:List AV}{ls:List D}{x:D}(h:Does P f args [] (.tup [.own 0 0 n,.d x]) [some ⟨e,g,c⟩])(hc:cB c=some ls)(hl:ls.length=n*e):Does P f args [] (.tup [.d (.sl n ls),.d x]) []:=by
 refine Does.noneS (Does.wk0 h (Wk.freeze 0 (R:=⟨e,g,c⟩) (ls:=ls) (Nat.le_refl _) rfl hc ?_ rfl));simp only[mapL,mapA,fzG,if_true,List.drop_zero];rw[zt (by rw[hl];exact Nat.le_refl _)]
end Go.Lift
namespace Go.Proofs.YtobhmajhachnaaaGreatDoor
open Go.RowKit Go.Lift Plain
set_option maxRecDepth 100000
theorem CX{n:Nat}{F:List Int}(h:StpSz 1048576 n F):Does Tryz.prog 37 [.d (stp n F)] [] (.own 0 0 n) [some ⟨2,true,iv F⟩]:=by
 have hn:=h.n;have hl:=h.l;have ht:=JB h;refine zS Tryz.func37 ux ?_;unfold mE;refine zT ?_;have hle:n*2≤F.length:=by omega
 simp(disch:=omega) only[go_sem,seval,reduceCtorEq,ht,hle,if_true];refine⟨by omega, ?_⟩;exact zX
theorem D9{n:Nat}{F:List Int}(h:StpSz 1048576 n F):Does Tryz.prog 18 [.d (stp n F),.d (stp n F)] [] (.d (.bool true)) []:=by
 have hn:=h.n;have hl:=h.l;have c0:((n:Int)==n)=true:=by simp
 refine zS Tryz.func18 AM ?_;unfold tP;refine zT ?_;refine aA (n) (mkB 32 134216816) (fun k=>[(9,.d (.int k))]) (fun k=>[]) (hr:=fun k hk=> ?_);unfold qJ;by_cases hlt:k<n
 ·have d1:(k:Int)<n:=by omega
  have d2:¬(k:Int)≥n:=by omega
  have g:=s5 h hlt;simp(disch:=omega) only[go_sem,seval,reduceCtorEq,d1,d2,g,DJ]
  (repeat (refine And.intro (by omega) ?_))
  exact Next.drop (mkB 32 134216816) (by omega)
 ·have d1:¬(k:Int)<n:=by omega
  simp(disch:=omega) only[go_sem,seval,reduceCtorEq,d1,c0];exact zX
set_option maxRecDepth 100000
theorem FU{ds:List Int}{n:Int}(hd:∀d∈ds,1≤d∧d≤1000)(hl:ds.length≤1048576)(h0:0≤n∧n≤1152921504606846976):
  Does Tryz.prog 91 [.d (ints ds),.d (.int n)] [] (.own 0 0 ds.length) [some ⟨1,true,iv (ab ds n)⟩]:=by
 have hd1:∀d∈ds,1≤d:=fun d h=>(hd d h).1
 have hdl:=aJ ds n;have hpp:∀i,1≤aa (ds.drop i):=fun i=>aW _ (fun d h=>hd1 d (List.mem_of_mem_drop h))
 refine zS Tryz.func91 xr ?_;unfold pT;refine zT ?_;refine⟨by omega, ?_⟩;refine zV ?_;have hz:(List.replicate ds.length (0:Int)).take (ds.length-0)++(ab ds n).drop (ds.length-0)=List.replicate ds.length 0:=by
  rw[Nat.sub_zero,zt (by simp),List.drop_eq_nil_of_le (by omega),List.append_nil]
 have hz2:n / aa (ds.drop (ds.length-0))=n:=by simp [aa]
 refine aA (ds.length) (mkB 33 4294959104) (fun k=>[(1,.d (.int (n / aa (ds.drop (ds.length-k))))),(6,.d (.int (ds.length-1-k)))]) (fun k=>[(0,iv ((List.replicate ds.length (0:Int)).take (ds.length-k)++(ab ds n).drop (ds.length-k)))]) (h1:=by first|(simp only[go_sem,seval,reduceCtorEq,nz,na,n1,hz,hz2,Int.sub_zero];first|done|rfl)|rfl) (h2:=by first|(simp only[go_sem,seval,reduceCtorEq,nz,na,n1,hz,hz2,Int.sub_zero];first|done|rfl)|rfl) (hr:=fun k hk=> ?_);unfold nL;by_cases hlt:k<ds.length
 ·obtain⟨i,hik⟩:∃i,ds.length=k+1+i:=⟨ds.length-k-1,by omega⟩
  have e7:(ds.length:Int)-1-k=i:=by omega
  have e8:ds.length-k=i+1:=by omega
  have c1:(i:Int)≥0:=by omega
  have hid:i<ds.length:=by omega
  have c3:(i:Int)<ds.length:=by omega
  rw[e8];have gd:ds[i]? =some ds[i]:=zg hid;have hdi:=hd ds[i] (List.getElem_mem hid);have hne:ds[i]≠0:=by omega
  have hP:=hpp (i+1);have hq:0≤n / aa (ds.drop (i+1)):=Int.ediv_nonneg h0.1 (by omega);have hqb:n / aa (ds.drop (i+1))≤n:=Int.ediv_le_self _ h0.1;have hdg:(n / aa (ds.drop (i+1))).tmod ds[i]=(ab ds n).getD i 0:=by rw[tm hq,eP _ _ _ hid,p5,ac hid]
  have hdv:(n / aa (ds.drop (i+1))).tdiv ds[i]=n / aa (ds.drop i):=by
   rw[Int.tdiv_eq_ediv_of_nonneg hq, ← yP ds n i hid hd1,ac hid]
  have hdvb:0≤n / aa (ds.drop i):=Int.ediv_nonneg h0.1 (by have:=hpp i;omega);have hdvc:n / aa (ds.drop i)≤n:=Int.ediv_le_self _ h0.1;have hCl:((List.replicate ds.length (0:Int)).take (i+1)++(ab ds n).drop (i+1)).length=ds.length:=by simp;omega
  have hCs:((List.replicate ds.length (0:Int)).take (i+1)++(ab ds n).drop (i+1)).take i++[(ab ds n).getD i 0]++((List.replicate ds.length (0:Int)).take (i+1)++(ab ds n).drop (i+1)).drop (i+1)=(List.replicate ds.length (0:Int)).take i++(ab ds n).drop i:=by
   have h1:((List.replicate ds.length (0:Int)).take (i+1)++(ab ds n).drop (i+1)).take i=(List.replicate ds.length (0:Int)).take i:=by
    rw[List.take_append_of_le_length (by simp;omega),List.take_take,Nat.min_eq_left (by omega)]
   have h2:((List.replicate ds.length (0:Int)).take (i+1)++(ab ds n).drop (i+1)).drop (i+1)=(ab ds n).drop (i+1):=by
    rw[List.drop_append_of_le_length (by simp;omega),List.drop_eq_nil_of_le (by simp;omega),List.nil_append]
   rw[h1,h2,List.append_assoc,ac (by omega),List.singleton_append, ← List.drop_eq_getElem_cons]
  generalize (List.replicate ds.length (0:Int)).take (i+1)++(ab ds n).drop (i+1)=C at*;have hcl:i+1≤C.length:=by omega
  have e9:ds.length-(k+1)=i:=by omega
  have e10:(ds.length:Int)-1-(↑k+1)=i-1:=by omega
  simp(disch:=omega) only[go_sem,seval,reduceCtorEq,e7,c1,c3,gd,hne,hdg,hdv,hcl,ne_eq,not_false_eq_true];(refine Next.drop (mkB 33 4294959104) (by omega) (h1:= ?_) (h2:= ?_)<;>first|(simp only[go_sem,seval,reduceCtorEq,nz,na,n1,e9,e10,hCs];first|done|rfl)|rfl|skip)
 ·have hk':ds.length-k=0:=by omega
  have c1:¬(ds.length:Int)-1-k≥0:=by omega
  rw[hk'];simp(disch:=omega) only[go_sem,seval,reduceCtorEq,c1];exact zX
theorem vP{N:Net}{x v:Int}(h:NSz 1048576 N)(hv:I64 v):Does Tryz.prog 92 [netA N,.d (.int x),.d (.int v)] [] (.tup [netA (slcN N x v),.d (.bool (slcB N x v))]) []:=Does.fzNB (vQ h hv)
structure LabOk(N:Net)(L:List Int):Prop where
 ok:netOk N=true
 sz:NSz 1048576 N
 len:L.length≤1048576
 dim:∀x∈L,(0≤x∧x≤99)∧1≤dimN N.ts x∧dimN N.ts x≤8
 nd:L.Nodup
theorem LabOk.szL{N:Net}{L:List Int}(h:LabOk N L):Sz 1048576 L:=⟨h.len,fun x hx=>by have:=(h.dim x hx).1;unfold I64;omega⟩
def gG(N:Net)(L:List Int):List Int:=L.map (dimN N.ts)
theorem LabOk.sl{N:Net}{L:List Int}(h:LabOk N L)(k:Int):SlV N L (ab (gG N L) k):=by
 have hl:(gG N L).length=L.length:=by simp [gG]
 refine⟨h.ok,h.sz,by rw[aJ,hl],fun j hj=> ?_⟩;rw[eP _ _ _ (by omega),p5];have e:(gG N L).getD j 0=dimN N.ts (L.getD j 0):=by
  rw[ac (by omega),ac hj];simp [gG]
 have hd:=h.dim _ (dN L j hj);rw[e];exact⟨Int.emod_nonneg _ (by omega),Int.emod_lt_of_pos _ (by omega)⟩
theorem DS{ds:List Int}{n:Int}(hd:∀d∈ds,1≤d∧d≤8):∀x∈ab ds n,0≤x∧x<8:=fun x hx=>by
 obtain⟨k,hk,rfl⟩:=List.getElem_of_mem hx;rw[aJ]at hk;have e:=eP ds n k hk;rw[ac (by rw[aJ];exact hk)]at e;rw[e,p5];have:=hd _ (dN ds k hk);have a:=Int.emod_nonneg (n / aa (ds.drop (k+1))) (b:=ds.getD k 0) (by omega);have b:=Int.emod_lt_of_pos (n / aa (ds.drop (k+1))) (b:=ds.getD k 0) (by omega);omega
set_option maxHeartbeats 1600000 in
theorem F8{N:Net}{L:List Int}(h:LabOk N L){q:Int}(h0:0≤q∧q≤1152921504606846976):
  Does Tryz.prog 50 [netA N,.d (ints L),.d (.int q)] [] (netA (slA N L (ab (gG N L) q))) []:=by
 have hax:=bq h.ok;have hRl:=dz N.ts;have hdr:List.drop 100 (repI 100 0)=[]:=List.drop_of_length_le (by rw[dG];exact Nat.le_refl _);have hok2:=(du hax).1.2 (ae.1 h.ok).2.2.2.1;have hat:=(du hax).2 hok2;have hmp:L.map (atT (bA N.ts).1)=gG N L:=List.map_congr_left fun x hx=>hat x (h.dim x hx).1
 have hds:∀d∈gG N L,1≤d∧d≤8:=fun d hd=>by
  obtain⟨x,hx,rfl⟩:=List.mem_map.1 hd
  exact(h.dim x hx).2
 have hml:(gG N L).length=L.length:=by simp [gG]
 have ht100:(bA N.ts).1.take 100=(bA N.ts).1:=zt (by omega);have htL:(gG N L).take L.length=gG N L:=zt (by omega);have hll:=h.len;have hsl:=h.sl q;have hVl:=aJ (gG N L) q;have hVb:=DS (n:=q) hds;have hidx:=FU (ds:=gG N L) (n:=q) (fun d hd=>by have:=hds d hd;omega) (by omega) h0;generalize ab (gG N L) q=V at hsl hVl hVb hidx;refine zS Tryz.func50 xo ?_;unfold pQ;refine zT ?_;(refine zC (jn (ts:=N.ts) h.sz.l h.sz.t hax) ?_);simp(disch:=omega) only[go_sem,seval,reduceCtorEq,hdr,hRl]
 (refine zC (tD (D:=(bA N.ts).1) (L:=L) hRl h.len (fun x hx=>(h.dim x hx).1)) ?_ (by simp only[go_sem,seval,reduceCtorEq,ht100]));simp(disch:=omega) only[go_sem,seval,reduceCtorEq,hmp];(refine zC (hidx) ?_ (by simp only[go_sem,seval,reduceCtorEq,hml,htL]));simp(disch:=omega) only[go_sem,seval,reduceCtorEq,hml];have e0:=GM (N:=N) (L:=L) (V:=V)
 refine aA (L.length) (mkB 45 17591649179648) (fun k=>[(28,.d (.int k))]) (fun k=>[(6,[.d (.int (slK N L V k).k),.d (.int (slK N L V k).p),.d (.int (slK N L V k).n),.d (tens (slK N L V k).ts),.d (ints (slK N L V k).os)])]) (h1:=by first|(simp only[go_sem,seval,reduceCtorEq,nz,na,n1,e0];first|done|rfl)|rfl) (h2:=by first|(simp only[go_sem,seval,reduceCtorEq,nz,na,n1,e0];first|done|rfl)|rfl) (hr:=fun k hk=> ?_);unfold nK;by_cases hlt:k<L.length
 ·have d1:(k:Int)<L.length:=by omega
  have hkV:k<V.length:=by omega
  have g:L[k]? =some L[k]:=zg hlt;have g2:V[k]? =some V[k]:=zg hkV;have hv:=hVb V[k] (List.getElem_mem hkV);have hz:=hsl.sz' (k:=k) (by omega);have hnx:=(hsl.next hlt (by rw[ac hlt];exact dQ h.nd hlt)).2;rw[ac hlt,ac hkV]at hnx;simp(disch:=omega) only[go_sem,seval,reduceCtorEq,d1,g,g2,Option.map_some];(refine zD (vP (N:=slK N L V k) (x:=L[k]) (v:=V[k]) hz (by unfold I64;omega)) ?_);simp(disch:=omega) only[go_sem,seval,reduceCtorEq,hnx];exact Next.drop (mkB 45 17591649179648) (by omega)
 ·have d1:¬(k:Int)<L.length:=by omega
  obtain rfl:k=L.length:=by omega
  simp(disch:=omega) only[go_sem,seval,reduceCtorEq,d1];(refine zE ?_ ?_<;>try simp only[go_sem,seval,reduceCtorEq])
  rfl
structure ClsOk(N:Net)(L:List Int):Prop where
 ok:netOk N=true
 sz:NSz 1048576 N
 mem:∀x∈L,x∈aE N
 nd:L.Nodup
theorem ClsOk.lab{N:Net}{L:List Int}(h:ClsOk N L):LabOk N L:=
 ⟨h.ok,h.sz,by have:=ud h.nd fun x hx=>(js h.ok (h.mem x hx)).1;omega,fun x hx=>js h.ok (h.mem x hx),h.nd⟩
theorem ClsOk.dist{N:Net}{L:List Int}(h:ClsOk N L):zQ (aE N) L=true:=decide_eq_true fun k hk=>⟨h.mem _ (List.getElem_mem hk),dQ h.nd hk⟩
end Go.Proofs.YtobhmajhachnaaaGreatDoor
namespace Go.Proofs.YtobhmajhachnaaaGreatDoor.Sem
open Plain
section
variable {r : Rg} {wd : Nat} (hr : ai r = true) (hw : af r = wd) {dim : Int → Nat}
theorem C2{x:Int}{v:Nat}:∀{L:List Int} {j:Nat} {a:Asg},L.Nodup→(hj:j<L.length)→L[j]=x→(∀y∈L.eraseIdx j,a y<dim y)→offJ v (ay dim L) j (offR dim (L.eraseIdx j) a)=offR dim L (up a x v)
 | [],j,_,_,hj,_,_=>by simp at hj
 |y :: L,0,a,hn,_,e,_=>by
  simp only[List.getElem_cons_zero]at e;subst e;obtain⟨h1,h2⟩:=List.nodup_cons.1 hn
  show v*aZ (ay dim L)+offR dim L a=up a y v y*pN dim L+offR dim L (up a y v)
  rw[fi,dJ,fT dim (a:=up a y v) (b:=a) fun z hz=>nq fun e=>h1 (e ▸ hz)]
 |y :: L,j+1,a,hn,hj,e,ha=>by
  have hj':j<L.length:=by simpa using hj
  simp only[List.getElem_cons_succ]at e;obtain⟨h1,h2⟩:=List.nodup_cons.1 hn;have hne:y≠x:=fun h=>h1 (by rw[h, ← e];exact List.getElem_mem hj')
  have ha':∀z∈L.eraseIdx j,a z<dim z:=fun z hz=>ha z (by rw[List.eraseIdx_cons_succ];exact List.mem_cons_of_mem _ hz)
  have ih:=C2 (v:=v) h2 hj' e ha';have hlt:=dg dim ha';have hE:(ay dim L).eraseIdx j=ay dim (L.eraseIdx j):=by unfold ay;exact fD _ _ _
  show (a y*pN dim (L.eraseIdx j)+offR dim (L.eraseIdx j) a) / aZ ((ay dim L).eraseIdx j)*aZ (ay dim L)+offJ v (ay dim L) j ((a y*pN dim (L.eraseIdx j)+offR dim (L.eraseIdx j) a) % aZ ((ay dim L).eraseIdx j))=up a x v y*pN dim L+offR dim L (up a x v)
  rw[hE,dJ,dJ,nq hne];have q1:(a y*pN dim (L.eraseIdx j)+offR dim (L.eraseIdx j) a) / pN dim (L.eraseIdx j)=a y:=by
   rw[Nat.mul_comm,Nat.mul_add_div (by omega),Nat.div_eq_of_lt hlt,Nat.add_zero]
  have q2:(a y*pN dim (L.eraseIdx j)+offR dim (L.eraseIdx j) a) % pN dim (L.eraseIdx j)=offR dim (L.eraseIdx j) a:=by
   rw[Nat.mul_comm,Nat.mul_add_mod,Nat.mod_eq_of_lt hlt]
  rw[q1,q2,ih]
theorem LT{t:Ten}(h:TV r wd dim t){x:Int}{v j:Nat}(hj:j<t.labels.length)(hx:t.labels[j]=x)(hv:v<dim x):TV r wd dim (sliR wd t x v j)∧∀a:Asg,(∀y∈wo t.labels x,a y<dim y)→elT hr hw dim (sliR wd t x v j) a=elT hr hw dim t (up a x v):=by
 have hW:wo t.labels x=t.labels.eraseIdx j:=by rw[← hx];exact wm hj h.nd
 have hmem:∀y∈wo t.labels x,y∈t.labels:=fun y hy=>(mM.1 hy).1
 have hnd:(wo t.labels x).Nodup:=h.nd.filter _;have hdp:∀y∈wo t.labels x,1≤dim y:=fun y hy=>h.dp y (hmem y hy)
 have hD:sliD t j=ay dim (wo t.labels x):=by
  unfold sliD;rw[h.dm,hW];unfold ay;exact fD _ _ _
 have hN:sliN t j=pN dim (wo t.labels x):=by unfold sliN;rw[hD,dJ]
 have hup:∀a:Asg,(∀y∈wo t.labels x,a y<dim y)→∀y∈t.labels,up a x v y<dim y:=fun a ha y hy=>by
  by_cases e:y=x
  ·subst e;rw[fi];exact hv
  ·rw[nq e];exact ha y (mM.2 ⟨hy,e⟩)
 have hoff:∀a:Asg,(∀y∈wo t.labels x,a y<dim y)→offJ v t.dims j (offR dim (wo t.labels x) a)=offR dim t.labels (up a x v):=fun a ha=>by
  rw[h.dm,hW];exact C2 h.nd hj hx (by rw[← hW];exact ha)
 have hlt:∀k,k<pN dim (wo t.labels x)→offJ v t.dims j k<pN dim t.labels:=fun k hk=>by
  have ha:∀y∈wo t.labels x,asgN dim (fun _=>0) (wo t.labels x) k y<dim y:=fun y hy=>iQ dim _ hdp _ k y hy
  have e:=hoff _ ha;rw[sq dim _ hnd hdp _ k hk]at e;rw[e];exact dg dim (hup _ ha)
 have hcut:∀k,k<pN dim (wo t.labels x)→cutE (sliR wd t x v j).data wd k=cutE t.data wd (offJ v t.dims j k):=fun k hk=>by
  show cutE (gath t.data wd (offJ v t.dims j) (sliN t j)) wd k=_
  rw[hN];exact uS h.len (fun i hi=>hlt i hi) hk
 have hlen:(sliR wd t x v j).data.length=pN dim (wo t.labels x)*wd:=by
  show (gath t.data wd (offJ v t.dims j) (sliN t j)).length=_
  rw[hN];refine dP fun i hi=> ?_
  have:=Nat.mul_le_mul_right wd (show offJ v t.dims j i+1≤pN dim t.labels from hlt i hi);rw[Nat.succ_mul]at this;rw[h.len];omega
 have hT:TV r wd dim (sliR wd t x v j):=⟨hnd,hD,hdp,hlen,j5 hr hw hlen fun k hk=>by rw[hcut k hk];exact h.el (hlt k hk)⟩;refine⟨hT,fun a ha=>rF hr hw hT ha ?_⟩;rw[gk hr hw h (hup a ha)]
 show cutE (sliR wd t x v j).data wd (offR dim (wo t.labels x) a)=_
 rw[hcut _ (dg dim ha),hoff a ha]
end
def updV(L V:List Int):Nat→Asg→Asg
 |0,a=>a
 |k+1,a=>updV L V k (up a (L.getD k 0) (V.getD k 0).toNat)
section
variable {L V : List Int} {a : Asg} {k : Nat} {y : Int}
theorem wq:∀(k:Nat) (a:Asg),(∀j,j<k→y≠L.getD j 0)→updV L V k a y=a y
 |0,_,_=>rfl
 |k+1,a,h=>by rw[updV,wq k _ fun j hj=>h j (by omega),nq (h k (by omega))]
theorem E3(hn:L.Nodup):∀(k:Nat) (a:Asg),k≤L.length→∀j,j<k→updV L V k a (L.getD j 0)=(V.getD j 0).toNat
 |k+1,a,hk,j,hj=>by
  have hp:=List.pairwise_iff_getElem.1 hn;by_cases e:j=k
  ·subst e
   rw[updV,wq j _ fun i hi e=> ?_,fi];rw[ac (show j<L.length by omega),ac (show i<L.length by omega)]at e;exact hp i j (by omega) (by omega) hi e.symm
  ·rw[updV,E3 hn k _ (by omega) j (by omega)]
theorem Gv{dim:Int→Nat}(hn:L.Nodup)(q:Nat)(a:Asg):updV L (ab (ay dim L) q) L.length a=asgN dim a L q:=by
 funext y
 by_cases hy:y∈L
 ·obtain⟨j,hj,rfl⟩:=List.getElem_of_mem hy
  rw[← ac hj,E3 hn _ a (Nat.le_refl _) j hj,jq dim L hn a q,ac hj];rw[zq,List.getElem?_map,zg hj]
  simp
 ·rw[ju dim L a q y hy]
  refine wq _ _ fun j hj e=>hy ?_
  rw[e,ac hj];exact List.getElem_mem hj
end
theorem L1{dim:Int→Nat}{L:List Int}(hn:L.Nodup){q:Nat}{a b:Asg}{y:Int}(hy:y∈L):asgN dim a L q y=asgN dim b L q y:=by
 obtain⟨j,hj,rfl⟩:=List.getElem_of_mem hy;have h1:=congrArg (fun l=>l.getD j 0) ((jq dim L hn a q).symm.trans (jq dim L hn b q));have h2:(asgN dim a L q L[j]:Int)=asgN dim b L q L[j]:=by simpa [zq,hj]using h1
 omega
theorem L0{dim:Int→Nat}{L:List Int}(hn:L.Nodup){q:Nat}{a:Asg}{x:Int}{v:Nat}(hx:x∉L):up (asgN dim a L q) x v=asgN dim (up a x v) L q:=by
 funext y
 by_cases hy:y∈L
 ·rw[nq (show y≠x from fun e=>hx (e ▸ hy))]
  exact L1 hn hy
 ·rw[ju dim L _ q y hy]
  unfold up;rw[ju dim L _ q y hy]
section
variable {E : Type} (S : SR E) (dim : Int → Nat)
theorem Bv{u:Asg→Asg}{f:Asg→E}:∀{R:List Int},(∀x∈R,∀a v,up (u a) x v=u (up a x v))→∀a,sumL S dim R f (u a)=sumL S dim R (fun b=>f (u b)) a
 | [],_,_=>rfl
 |x :: R,h,a=>by
  rw[sumL,sumL];refine cn S fun v _=> ?_
  rw[h x List.mem_cons_self,Bv (fun y hy=>h y (List.mem_cons_of_mem _ hy))]
end
section
variable {N : Net} {wd : Nat} {L V : List Int}
theorem DI(hw:af N.rg=wd)(h6:Gen6 N)(h:SlV N L V){t:Ten}(ht:t∈N.ts):∀k,k≤L.length→TV N.rg wd d6 (d7 N.rg t L V k)∧
  ∀a:Asg,(∀y∈(d7 N.rg t L V k).labels,a y<d6 y)→elT (ae.1 h6.ok).1 hw d6 (d7 N.rg t L V k) a=elT (ae.1 h6.ok).1 hw d6 t (updV L V k a)
 |0,_=>⟨LU hw (h6.six t ht) ((ae.1 h6.ok).2.2.1 t ht),fun _ _=>rfl⟩
 |k+1,hk=>by
  obtain⟨i1,i2⟩:=DI hw h6 h ht k (by omega);have hst:=h.st ht (k:=k) (by omega);rw[d7];by_cases hm:L.getD k 0∈(d7 N.rg t L V k).labels
  ·rw[if_pos hm]
   obtain⟨u,wd',n,j,e1,e2,e3,hS,e4⟩:=sb (h.good ht (k+1) hk k (by omega) hm);have:wd'=wd:=by omega
   subst this;rw[e4];have hj:=hS.jl;have hv:u<d6 (L.getD k 0):=by
    have h1:=hS.vd;rw[i1.dm,CR,ac (by simpa [bB]using hj)]at h1;simp only[bB,List.getElem_map,hS.lx]at h1;have:=EJ (L.getD k 0);omega
   obtain⟨s1,s2⟩:=LT (ae.1 h6.ok).1 hw i1 hj hS.lx hv;refine⟨s1,fun a ha=> ?_⟩;rw[s2 a ha,i2 _ fun y hy=> ?_,updV,e1,Int.toNat_natCast];by_cases e:y=L.getD k 0
   ·subst e;rw[fi];exact hv
   ·rw[nq e];exact ha y (mM.2 ⟨hy,e⟩)
  ·rw[if_neg hm]
   refine⟨i1,fun a ha=> ?_⟩;rw[updV, ← uL (t:=d7 N.rg t L V k) (a:=up a (L.getD k 0) (V.getD k 0).toNat) (b:=a) _ hw fun y hy=>nq fun e=>hm (e ▸ hy)];exact i2 _ fun y hy=>by rw[nq (show y≠L.getD k 0 from fun e=>hm (e ▸ hy))];exact ha y hy
theorem Db(hw:af N.rg=wd)(h6:Gen6 N)(h:SlV N L V):Gen6 (slA N L V):=by
 refine⟨h.netOk (Nat.le_refl _),fun s hs=> ?_⟩;obtain⟨t,ht,rfl⟩:=List.mem_map.1 hs;obtain⟨i1,_⟩:=DI hw h6 h ht L.length (Nat.le_refl _);have hl:=h.labels ht L.length (Nat.le_refl _);have h6t:=h6.six t ht;refine⟨by rw[i1.dm,CR],i1.nd,fun x hx=> ?_, ?_⟩
 ·rw[hl]at hx
  exact h6t.bd x (List.mem_filter.1 hx).1
 ·rw[hl]
  exact Nat.le_trans (List.length_filter_le _ _) h6t.len
theorem Hi{E:Type}(S:SR E){a b:Asg}:∀{l m:List (Asg→E)},l.map (fun f=>f a)=m.map (fun f=>f b)→prL S l a=prL S m b
 | [],[],_=>rfl
 | [],_ :: _,h=>by simp at h
 |_ :: _,[],h=>by simp at h
 |x :: l,y :: m,h=>by
  simp only[List.map_cons,List.cons.injEq]at h;rw[prL,prL,h.1,Hi S h.2]
theorem F7(hw:af N.rg=wd)(h6:Gen6 N)(hn:L.Nodup)(hc:∀x∈L,x∈aE N)(hV:∀q:Nat,SlV N L (ab (ay d6 L) q))(a:Asg)(ha:∀x∈N.os,a x<d6 x):
  elT (ae.1 h6.ok).1 hw d6 (nvR N wd) a=sm (aG (ae.1 h6.ok).1 hw) (fun q=>elT (ae.1 h6.ok).1 hw d6 (nvR (slA N L (ab (ay d6 L) q)) wd) a) (pN d6 L):=by
 have hr:=(ae.1 h6.ok).1;obtain⟨_,n2⟩:=nv6 h6 hr hw;rw[n2 a ha];unfold valL;have hrest:(aE N).Perm (L++(aE N).filter fun x=> !has L x):=by
  refine(List.perm_ext_iff_of_nodup (j7 N) ?_).2 fun x=> ?_
  ·refine List.nodup_append.2 ⟨hn,(j7 N).filter _,fun x hx y hy e=> ?_⟩
   subst e;have:=(List.mem_filter.1 hy).2;rw[aQ.2 hx]at this;cases this
  ·rw[List.mem_append,List.mem_filter,Bool.not_eq_true',aI]
   exact⟨fun hx=>if hL:x∈L then .inl hL else .inr ⟨hx,hL⟩,fun hx=>hx.elim (hc x) fun hx=>hx.1⟩
 rw[iT _ _ hrest (j7 N),od, ← At (aG hr hw) d6 _ L (fun x _=>xR x) a];refine cn _ fun q hq=> ?_
 have hS:=hV q;have hg:=Db hw h6 hS;have hos:(slA N L (ab (ay d6 L) q)).os=N.os:=by
  show N.os.filter (outL L L.length)=N.os
  refine List.filter_eq_self.2 fun x hx=> ?_
  unfold outL;rw[List.take_length,Bool.not_eq_true',aI];exact fun hL=>((eN h6.ok).1 (hc x hL)).2 hx
 obtain⟨_,m2⟩:=nv6 hg hr hw;have e2:=m2 a (by rw[hos];exact ha);refine Eq.trans ?_ e2.symm;unfold valL;have hlab:∀t∈N.ts,∀x,x∈(d7 N.rg t L (ab (ay d6 L) q) L.length).labels↔x∈t.labels∧x∉L:=fun t ht x=>by
  rw[hS.labels ht L.length (Nat.le_refl _),List.mem_filter,outL,List.take_length,Bool.not_eq_true',aI]
 have hcl:((aE N).filter fun x=> !has L x).Perm (aE (slA N L (ab (ay d6 L) q))):=by
  refine(List.perm_ext_iff_of_nodup ((j7 N).filter _) (j7 _)).2 fun x=> ?_
  rw[List.mem_filter,Bool.not_eq_true',aI,eN h6.ok,eN hg.ok,hos]
  constructor
  ·rintro⟨⟨⟨t,ht,hxt⟩,ho⟩,hL⟩
   exact⟨⟨_,List.mem_map.2 ⟨t,ht,rfl⟩,(hlab t ht x).2 ⟨hxt,hL⟩⟩,ho⟩
  ·rintro⟨⟨s,hs,hxs⟩,ho⟩
   obtain⟨t,ht,rfl⟩:=List.mem_map.1 hs;obtain⟨h1,h2⟩:=(hlab t ht x).1 hxs;exact⟨⟨⟨t,ht,h1⟩,ho⟩,h2⟩
 rw[Bv (aG hr hw) d6 (u:=fun b=>asgN d6 b L q) (fun x hx b v=>L0 hn fun hL=> ?_),iT _ _ hcl ((j7 N).filter _)]
 ·refine bS _ _ fun b hb=>Hi _ ?_
  show (N.ts.map (elT hr hw d6)).map (fun f=>f (asgN d6 b L q))=((N.ts.map fun t=>d7 N.rg t L (ab (ay d6 L) q) L.length).map (elT hr hw d6)).map fun f=>f b
  rw[List.map_map,List.map_map,List.map_map];refine List.map_congr_left fun t ht=> ?_
  obtain⟨f1,f2⟩:=DI hw h6 hS ht L.length (Nat.le_refl _)
  show elT hr hw d6 t (asgN d6 b L q)=elT hr hw d6 (d7 N.rg t L (ab (ay d6 L) q) L.length) b
  rw[f2 b fun y hy=> ?_,Gv hn];by_cases hyo:y∈N.os
  ·rw[hb.1 y fun hy'=>((eN hg.ok).1 hy').2 (by rw[hos];exact hyo)]
   exact ha y hyo
  ·exact hb.2 y ((eN hg.ok).2 ⟨⟨_,List.mem_map.2 ⟨t,ht,rfl⟩,hy⟩,by rw[hos];exact hyo⟩)
 ·have:=(List.mem_filter.1 hx).2
  rw[aQ.2 hL]at this;cases this
def yB(N:Net)(wd:Nat):Ten:=⟨N.os,ay d6 N.os,repE (aq N.rg.k N.rg.p wd) (pN d6 N.os)⟩
def sumK(N:Net)(wd:Nat)(L:List Int):Nat→Ten
 |0=>yB N wd
 |k+1=>sumT N.rg wd (sumK N wd L k) (nvR (slA N L (ab (ay d6 L) k)) wd)
theorem Gm(hw:af N.rg=wd)(h6:Gen6 N):TV N.rg wd d6 (yB N wd)∧∀a:Asg,(∀x∈N.os,a x<d6 x)→elT (ae.1 h6.ok).1 hw d6 (yB N wd) a=(aG (ae.1 h6.ok).1 hw).zero:=by
 have hr:=(ae.1 h6.ok).1;have hz:(aq N.rg.k N.rg.p wd).length=wd:=bz ..;have hlen:(yB N wd).data.length=pN d6 N.os*wd:=by
  show (repE _ _).length=_
  rw[dH,hz]
 have hT:TV N.rg wd d6 (yB N wd):=⟨yZ h6.ok,rfl,fun x _=>xR x,hlen,j5 hr hw hlen fun k hk=>by
  rw[show (yB N wd).data=repE (aq N.rg.k N.rg.p wd) (pN d6 N.os)from rfl,me hz hk]
  exact((aG hr hw).zero).property⟩
 refine⟨hT,fun a ha=>rF hr hw hT ha ?_⟩;exact me hz (dg d6 ha)
theorem Ar(hw:af N.rg=wd)(h6:Gen6 N)(hn:L.Nodup)(hc:∀x∈L,x∈aE N)(hV:∀q:Nat,SlV N L (ab (ay d6 L) q)):∀k,TV N.rg wd d6 (sumK N wd L k)∧(sumK N wd L k).labels=N.os∧
  ∀a:Asg,(∀x∈N.os,a x<d6 x)→elT (ae.1 h6.ok).1 hw d6 (sumK N wd L k) a=sm (aG (ae.1 h6.ok).1 hw) (fun q=>elT (ae.1 h6.ok).1 hw d6 (nvR (slA N L (ab (ay d6 L) q)) wd) a) k
 |0=>by
  obtain⟨h1,h2⟩:=Gm hw h6;exact⟨h1,rfl,h2⟩
 |k+1=>by
  obtain⟨i1,i2,i3⟩:=Ar hw h6 hn hc hV k;have hg:=Db hw h6 (hV k);have hos:(slA N L (ab (ay d6 L) k)).os=N.os:=by
   show N.os.filter (outL L L.length)=N.os
   refine List.filter_eq_self.2 fun x hx=> ?_
   unfold outL;rw[List.take_length,Bool.not_eq_true',aI];exact fun hL=>((eN h6.ok).1 (hc x hL)).2 hx
  obtain⟨m1,_⟩:=nv6 hg (ae.1 h6.ok).1 hw;obtain⟨s1,s2⟩:=LR (ae.1 h6.ok).1 hw i1 m1 fun x=>by
   rw[i2]
   show x∈N.os↔x∈(slA N L (ab (ay d6 L) k)).os
   rw[hos]
  refine⟨s1,i2,fun a ha=> ?_⟩;rw[sm, ← i3 a ha];exact s2 a (by rw[i2];exact ha)
theorem GB(hw:af N.rg=wd)(h6:Gen6 N)(hn:L.Nodup)(hc:∀x∈L,x∈aE N)(hV:∀q:Nat,SlV N L (ab (ay d6 L) q)):sumK N wd L (pN d6 L)=nvR N wd:=by
 obtain⟨h1,h2,h3⟩:=Ar hw h6 hn hc hV (pN d6 L);have hr:=(ae.1 h6.ok).1;refine Ao hr hw h1 (nv6 h6 hr hw).1 h2 fun a ha=> ?_
 rw[h2]at ha;rw[h3 a ha, ← F7 hw h6 hn hc hV a ha]
end
end Go.Proofs.YtobhmajhachnaaaGreatDoor.Sem
