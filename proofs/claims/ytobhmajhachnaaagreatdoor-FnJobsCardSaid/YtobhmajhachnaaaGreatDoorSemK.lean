/-
 Networks over the labels 0 to 5: a tensor replaced, its environment, and sums of tensors. No condition.
-/
import Derived.Test.YtobhmajhachnaaaGreatDoorSemH
import Derived.Test.YtobhmajhachnaaaGreatDoorGenG
set_option linter.unusedSimpArgs false
set_option linter.unusedVariables false
namespace Go.Proofs.YtobhmajhachnaaaGreatDoor.Sem
open Plain
section
variable {E : Type} (S : SR E) {dim dim' : Int → Nat}
theorem wQ:∀{L:List Int},(∀x∈L,dim x=dim' x)→pN dim L=pN dim' L
 | [],_=>rfl
 |x :: L,h=>by rw[pN,pN,h x List.mem_cons_self,wQ fun y hy=>h y (List.mem_cons_of_mem _ hy)]
theorem C1:∀{L:List Int} {a:Asg},(∀x∈L,dim x=dim' x)→offR dim L a=offR dim' L a
 | [],_,_=>rfl
 |x :: L,a,h=>by rw[offR,offR,wQ fun y hy=>h y (List.mem_cons_of_mem _ hy),C1 fun y hy=>h y (List.mem_cons_of_mem _ hy)]
theorem Bw{f:Asg→E}:∀{L:List Int} {a:Asg},(∀x∈L,dim x=dim' x)→sumL S dim L f a=sumL S dim' L f a
 | [],_,_=>rfl
 |x :: L,a,h=>by
  rw[sumL,sumL,h x List.mem_cons_self];exact cn S fun v _=>Bw fun y hy=>h y (List.mem_cons_of_mem _ hy)
end
def d6:Int→Nat:=fun x=>(dimL x).toNat
theorem EJ(x:Int):(d6 x:Int)=dimL x:=by have:=kM (x:=x);unfold d6;omega
theorem xR(x:Int):1≤d6 x:=by have:=kM (x:=x);unfold d6;omega
section
variable {r : Rg} {wd : Nat} (hr : ai r = true) (hw : af r = wd) {dim dim' : Int → Nat}
theorem EI{t:Ten}(h:∀x∈t.labels,dim x=dim' x):elT hr hw dim t=elT hr hw dim' t:=by
 funext a
 unfold elT;rw[C1 h]
theorem TV.reDim{t:Ten}(h:TV r wd dim t)(e:∀x∈t.labels,dim x=dim' x):TV r wd dim' t:=
 ⟨h.nd,h.dm.trans (List.map_congr_left fun x hx=>by rw[e x hx]),fun x hx=>by rw[← e x hx];exact h.dp x hx,by rw[h.len,wQ e],h.fit⟩
theorem LU(hw:af r=wd){t:Ten}(h:Nat6 t)(hok:al r t.labels t.dims t.data=true):TV r wd d6 t:=by
 have hdm:t.dims=ay d6 t.labels:=h.dims.trans (List.map_congr_left fun x _=>(EJ x).symm);have hf:=(bI hok).2.2.2.2.2;refine⟨h.nd,hdm,fun x _=>xR x, ?_,qy hok⟩;rw[hdm,cX,hw]at hf
 exact_mod_cast hf
end
section
variable {N : Net} {wd : Nat}
theorem zW(h:Gen6 N){x:Int}(hx:x∈ar N):dimF N x=d6 x:=by
 have h1:=(eW h.ok).1 hx;have h2:=kN h.ok x;have h3:=EJ x;rcases DQ h.six x with e|e<;>omega
theorem uh(h:netOk N=true){x:Int}:x∈ar N↔∃t∈N.ts,x∈t.labels:=
 ⟨fun hx=>oF ((eW h).1 hx),fun⟨t,ht,hx⟩=>iW h ht hx⟩
theorem eN(h:netOk N=true){x:Int}:x∈aE N↔(∃t∈N.ts,x∈t.labels)∧x∉N.os:=by
 rw[aE,List.mem_filter,uh h,Bool.not_eq_true',aI]
theorem j7(N:Net):(aE N).Nodup:=(fr N).filter _
theorem nv6(h:Gen6 N)(hr:ai N.rg=true)(hw:af N.rg=wd):TV N.rg wd d6 (nvR N wd)∧
  ∀a:Asg,(∀x∈N.os,a x<d6 x)→elT hr hw d6 (nvR N wd) a=valL (aG hr hw) d6 (N.ts.map (elT hr hw d6)) (aE N) a:=by
 obtain⟨h1,h2⟩:=HF h.ok hw;have ho:∀x∈N.os,dimF N x=d6 x:=fun x hx=>zW h (vb h.ok x hx)
 refine⟨h1.reDim ho,fun a ha=> ?_⟩;rw[← EI hr hw (dim:=dimF N) ho,h2 a fun x hx=>by rw[ho x hx];exact ha x hx];have e1:N.ts.map (elT hr hw (dimF N))=N.ts.map (elT hr hw d6):=List.map_congr_left fun t ht=>EI hr hw fun x hx=>zW h (iW h.ok ht hx)
 unfold valL;rw[e1];exact Bw _ fun x hx=>zW h (List.mem_filter.1 hx).1
end
end Go.Proofs.YtobhmajhachnaaaGreatDoor.Sem
namespace Go.Proofs.YtobhmajhachnaaaGreatDoor.Sem
open Plain
section
variable {N : Net} {wd : Nat}
theorem CV{f:List Int→List Int→List Int}{x y:List Int}:∀{n k:Nat},(∀i,i<n→(f (cutE x wd i) (cutE y wd i)).length=wd)→k<n→cutE (opP f x y wd n) wd k=f (cutE x wd k) (cutE y wd k)
 |0,k,_,h=>by omega
 |n+1,k,hf,h=>by
  have hl:=mW (n:=n+1) hf n (by omega);unfold cutE at hl hf ⊢;by_cases e:k=n
  ·subst e
   have h1:=hf k (by omega);rw[opP,List.drop_append_of_le_length (by omega),List.drop_of_length_le (by omega),List.nil_append];exact zt (Nat.le_of_eq h1)
  ·have hk:k<n:=by omega
   have h2:=Nat.mul_le_mul_right wd (show k+1≤n from hk);rw[Nat.succ_mul]at h2;have ih:=CV (f:=f) (x:=x) (y:=y) (n:=n) (fun i hi=>hf i (by omega)) hk;unfold cutE at ih;rw[opP,List.drop_append_of_le_length (by omega),List.take_append_of_le_length (by rw[List.length_drop];omega)];exact ih
def sumT(r:Rg)(wd:Nat)(t u:Ten):Ten:=⟨t.labels,t.dims,opP (addE r) t.data (cq wd u t.labels).data wd (aa t.dims).toNat⟩
theorem LR{r:Rg}(hr:ai r=true)(hw:af r=wd){dim:Int→Nat}{t u:Ten}(ht:TV r wd dim t)(hu:TV r wd dim u)(hl:∀x,x∈t.labels↔x∈u.labels):TV r wd dim (sumT r wd t u)∧
  ∀a:Asg,(∀x∈t.labels,a x<dim x)→elT hr hw dim (sumT r wd t u) a=(aG hr hw).add (elT hr hw dim t a) (elT hr hw dim u a):=by
 obtain⟨p1,p2⟩:=Ek hr hw hu ht.nd hl;have hn:(aa t.dims).toNat=pN dim t.labels:=by rw[ht.dm,cX];rfl
 have hlp:(cq wd u t.labels).labels=t.labels:=rfl;have hEl:∀i,i<pN dim t.labels→El r wd (addE r (cutE t.data wd i) (cutE (cq wd u t.labels).data wd i)):=fun i hi=>(ht.el hi).add hr (p1.el hi)
 have hdat:(sumT r wd t u).data=opP (addE r) t.data (cq wd u t.labels).data wd (pN dim t.labels):=by
  show opP (addE r) t.data (cq wd u t.labels).data wd (aa t.dims).toNat=_
  rw[hn]
 have hlen:(sumT r wd t u).data.length=pN dim t.labels*wd:=by rw[hdat];exact mW (n:=pN dim t.labels) (fun i hi=>(hEl i hi).len) _ (Nat.le_refl _)
 have hcut:∀i,i<pN dim t.labels→cutE (sumT r wd t u).data wd i=addE r (cutE t.data wd i) (cutE (cq wd u t.labels).data wd i):=fun i hi=>by
  rw[hdat];exact CV (fun i hi=>(hEl i hi).len) hi
 have hT:TV r wd dim (sumT r wd t u):=⟨ht.nd,ht.dm,ht.dp,hlen,j5 hr hw hlen fun i hi=>by rw[hcut i hi];exact hEl i hi⟩;refine⟨hT,fun a ha=>rF hr hw hT ha ?_⟩;rw[← p2 a ha]
 show cutE (sumT r wd t u).data wd (offR dim t.labels a)=addE r (elT hr hw dim t a).val (elT hr hw dim (cq wd u t.labels) a).val
 rw[hcut _ (dg dim ha),gk hr hw ht ha,gk hr hw p1 ha]
 rfl
end
end Go.Proofs.YtobhmajhachnaaaGreatDoor.Sem
namespace Go.Proofs.YtobhmajhachnaaaGreatDoor.Sem
open Plain
section
variable {r : Rg} {wd : Nat}
def L6(L:List Int):Prop:=∀x∈L,0≤x∧x<6
theorem CR(L:List Int):ay d6 L=bB L:=List.map_congr_left fun x _=>EJ x
theorem NJ{L:List Int}(hn:L.Nodup)(h:L6 L):axOk L (ay d6 L):=by
 have hl:=len6 hn h;refine qo (by omega) (by simp [ay]) hn (fun l hl=>by have:=h l hl;omega) fun d hd=> ?_
 rw[CR]at hd;obtain⟨y,_,rfl⟩:=List.mem_map.1 hd;have:=kM (x:=y);omega
theorem ox{L:List Int}(hn:L.Nodup)(h:L6 L):1≤aa (ay d6 L)∧aa (ay d6 L)≤729:=by
 rw[CR];exact⟨(lS L).1,Ej (len6 hn h)⟩
theorem Gw{L:List Int}(hn:L.Nodup)(h:L6 L):aT L (ay d6 L)=aa (ay d6 L):=by
 have h1:=NJ hn h;have h2:=ox hn h;unfold aT;rw[if_pos ⟨h1,by omega⟩]
theorem uY{t:Ten}(hr:ai r=true)(hw:af r=wd)(h:TV r wd d6 t)(h6:L6 t.labels):al r t.labels t.dims t.data=true:=by
 have h1:=Gw h.nd h6;have h2:=ox h.nd h6;simp only[al,hr,Bool.true_and,Bool.and_eq_true,decide_eq_true_eq,jm];refine⟨⟨by rw[h.dm,h1];omega, ?_⟩,h.fit⟩;rw[h.dm,h1,h.len,cX,hw]
 push_cast
 rfl
theorem wr{t:Ten}(hr:ai r=true)(hw:af r=wd)(h:TV r wd d6 t)(h6:L6 t.labels):TSz 1048576 t:=by
 have hl:=len6 h.nd h6;have hp:=ox h.nd h6;have hwd:=wd6 hr hw;have htp:=dA hr;rw[cX]at hp;have hlen:t.data.length≤729*6:=by
  rw[h.len];exact Nat.mul_le_mul (by omega) hwd.2
 refine⟨⟨by omega,fun x hx=> ?_⟩,⟨?_,fun x hx=> ?_⟩,⟨by omega,fun x hx=> ?_⟩⟩
 ·have:=h6 x hx;unfold I64;omega
 ·rw[h.dm];simp [ay];omega
 ·rw[h.dm,CR]at hx
  obtain⟨y,_,rfl⟩:=List.mem_map.1 hx;have:=kM (x:=y);unfold I64;omega
 ·have:=fA h.fit x hx
  unfold I64;omega
theorem Ll{A B:Ten}(hr:ai r=true)(hw:af r=wd)(hA:TV r wd d6 A)(hB:TV r wd d6 B)(a6:L6 A.labels)(b6:L6 B.labels)(keep:List Int):conB r A B keep=true∧conT r A B keep=conR r wd A B keep∧L6 (conK A B keep):=by
 have hn:=wc hA hB;have h6:L6 (conL A B):=fun x hx=>(bm.1 hx).elim (a6 x) (b6 x)
 have hk6:L6 (conK A B keep):=fun x hx=>h6 x (List.mem_filter.1 hx).1
 have hkn:(conK A B keep).Nodup:=hn.filter _;have h1:=ox hn h6;have h2:=Gw hkn hk6;have h3:=ox hkn hk6;have hj:gZ A B=true:=by
  unfold gZ;rw[List.all_eq_true];intro x hx;rw[Bool.not_eq_true',Bool.and_eq_false_iff];by_cases ha:x∈A.labels
  ·by_cases hb:x∈B.labels
   ·right
    rw[hA.dimEq ha,hB.dimEq hb]
    simp
   ·left
    rw[Bool.and_eq_false_iff];exact .inr (aI.2 hb)
  ·left
   rw[Bool.and_eq_false_iff];exact .inl (aI.2 ha)
 have hc:conB r A B keep=true:=by
  simp only[conB,uY hr hw hA a6,uY hr hw hB b6,hj,Bool.true_and,Bool.and_eq_true,decide_eq_true_eq];rw[rz hA hB,Aa hA hB keep,h2];omega
 refine⟨hc, ?_,hk6⟩;unfold conT;rw[hc,hw]
 rfl
end
section
variable {N : Net} {wd n : Nat} {F : List Int}
theorem Cb(h:Gen6 N):L6 (ar N):=fun x hx=>by
 obtain⟨t,ht,hxt⟩:=(uh h.ok).1 hx
 exact(h.six t ht).bd x hxt
theorem tA6(h:Gen6 N)(hok:bo N n F=true)(hw:af N.rg=wd){k i:Nat}(hk:k≤n)(hi:i<N.ts.length+k):TV N.rg wd d6 (tA N wd F k i)∧L6 (tA N wd F k i).labels∧(tA N wd F k i).labels=(ordS N F k).lab i:=by
 have hI:=invT hok hw k hk;have e:=hI.lab i hi;have hs:∀x∈(tA N wd F k i).labels,x∈ar N:=fun x hx=>by rw[e]at hx;exact hI.sub i hi x hx
 exact⟨(hI.tv i hi).reDim fun x hx=>zW h (hs x hx),fun x hx=>Cb h x (hs x hx),e⟩
end
end Go.Proofs.YtobhmajhachnaaaGreatDoor.Sem
namespace Go.Proofs.YtobhmajhachnaaaGreatDoor.Sem
open Plain
section
variable {r : Rg} {wd : Nat}
theorem BD{A B:List Int}(hA:A.Nodup)(hB:B.Nodup)(h:∀x,x∈A↔x∈B):lO A B=true:=by
 have hp:A.Perm B:=(List.perm_ext_iff_of_nodup hA hB).2 h;exact decide_eq_true ⟨hp.length_eq.symm,fun k hk=>⟨(h _).2 (List.getElem_mem hk),dQ hB hk⟩⟩
theorem sum6{t u:Ten}(hr:ai r=true)(hw:af r=wd)(ht:TV r wd d6 t)(hu:TV r wd d6 u)(t6:L6 t.labels)(hl:∀x,x∈t.labels↔x∈u.labels):alB r t u=true∧qE (addE r) r t u=sumT r wd t u:=by
 have u6:L6 u.labels:=fun x hx=>t6 x ((hl x).2 hx)
 have hd:aM u t.labels=t.dims:=by
  rw[ht.dm];exact List.map_congr_left fun x hx=>hu.dimEq ((hl x).1 hx)
 have ha:alB r t u=true:=by
  simp only[alB,alS,uY hr hw ht t6,uY hr hw hu u6,BD ht.nd hu.nd hl,hd,Bool.true_and,decide_true]
 refine⟨ha, ?_⟩;unfold qE;rw[ha]
 show (⟨t.labels,t.dims,opP (addE r) t.data (alT r t u).data (af r).toNat (aa t.dims).toNat⟩:Ten)=_
 unfold alT sumT;rw[hw]
 rfl
end
section
variable {N : Net} {wd : Nat}
end
end Go.Proofs.YtobhmajhachnaaaGreatDoor.Sem
namespace Go.Proofs.YtobhmajhachnaaaGreatDoor
open Go.RowKit Go.Lift Plain
set_option maxRecDepth 100000
theorem xM{P:Program}{f:FuncId}{args:List AV}{t:Ten}{g0 g1 g2:Bool}(h:Does P f args [] (ownT 0 t) [some ⟨1,g0,iv t.labels⟩,some ⟨1,g1,iv t.dims⟩,some ⟨1,g2,iv t.data⟩]):Does P f args [] (tenA t) []:=by
 have tk:∀xs:List Int,List.take xs.length (dv xs)=dv xs:=fun xs=>zt (by rw[cM];exact Nat.le_refl _)
 have h1:Wk 0 [ownT 0 t] [some ⟨1,g0,iv t.labels⟩,some ⟨1,g1,iv t.dims⟩,some ⟨1,g2,iv t.data⟩] [tenA t] [none,none,none]:=by
  refine(Wk.freeze 0 (R:=⟨1,g0,iv t.labels⟩) (ls:=dv t.labels) (Nat.le_refl _) rfl bn (e':=[.agg [.d (ints t.labels),.own 1 0 t.dims.length,.own 2 0 t.data.length]]) (σ':=[none,some ⟨1,g1,iv t.dims⟩,some ⟨1,g2,iv t.data⟩]) ?_ ?_).trans ?_
  ·simp [mapL,mapA,fzG,ownT,ints,tk]
  ·simp [frz,vl,fzG]
  refine(Wk.freeze 1 (R:=⟨1,g1,iv t.dims⟩) (ls:=dv t.dims) (Nat.zero_le _) rfl bn (e':=[.agg [.d (ints t.labels),.d (ints t.dims),.own 2 0 t.data.length]]) (σ':=[none,none,some ⟨1,g2,iv t.data⟩]) ?_ ?_).trans ?_
  ·simp [mapL,mapA,fzG,ints,tk]
  ·simp [frz,vl,fzG]
  refine Wk.freeze 2 (R:=⟨1,g2,iv t.data⟩) (ls:=dv t.data) (Nat.zero_le _) rfl bn ?_ ?_
  ·simp [mapL,mapA,fzG,ints,tk,tenA]
  ·simp [frz,vl,fzG]
 have h2:=h.wk0 h1;have:at_ [none,none,none]=at_ []:=by
  funext k
  match k with
  |0=>rfl
  |1=>rfl
  |2=>rfl
  |k+3=>simp [at_]
 unfold Does at*;rw[this]at h2;exact h2
theorem Fh{kk pp nn:Int}{wd:Nat}(hr:ai ⟨kk,pp,nn⟩=true)(hw:af ⟨kk,pp,nn⟩=wd)(h1:1≤wd∧wd≤6):Does Tryz.prog 121 [aY kk pp nn] [] (.own 0 0 wd) [some ⟨1,true,iv (oneE ⟨kk,pp,nn⟩ wd)⟩]:=by
 have hlr:(List.replicate wd (0:Int)).length=wd:=List.length_replicate;refine zS Tryz.func121 yn ?_;unfold qX;refine zT ?_;(refine zC (eL kk pp nn) ?_ (by simp only[go_sem,seval,reduceCtorEq,hw]));simp(disch:=omega) only[go_sem,seval,reduceCtorEq,hw];refine And.intro ⟨by omega,by omega⟩ ?_;by_cases h4:kk=4
 ·have c:(kk==4)=true:=by simp [h4]
  have e:oneE ⟨kk,pp,nn⟩ wd=(List.replicate wd 0).set 0 0:=by unfold oneE;rw[if_neg (by simp only;omega),if_pos h4]
  have e2:=gB h1.1 0;simp(disch:=omega) only[go_sem,seval,reduceCtorEq,c];refine⟨by omega,by rw[hlr];omega, ?_⟩;rw[e2, ← e];exact zX
 have c4:(kk==4)=false:=by simp [h4]
 by_cases h5:kk=5
 ·have c:(kk==5)=true:=by simp [h5]
  have ht:top ⟨kk,pp,nn⟩=pp:=by simp [top,h5]
  have e:oneE ⟨kk,pp,nn⟩ wd=(List.replicate wd 0).set 0 pp:=by unfold oneE;rw[if_pos (.inl h5),ht]
  have e2:=gB h1.1 pp;simp(disch:=omega) only[go_sem,seval,reduceCtorEq,c4,c];refine⟨by omega,by rw[hlr];omega, ?_⟩;rw[e2, ← e];exact zX
 have c5:(kk==5)=false:=by simp [h5]
 by_cases h6:kk=6
 ·have c:(kk==6)=true:=by simp [h6]
  have e:oneE ⟨kk,pp,nn⟩ wd=(List.replicate wd 0).set 0 (top ⟨kk,pp,nn⟩):=by unfold oneE;rw[if_pos (.inr h6)]
  have e2:=gB h1.1 (top ⟨kk,pp,nn⟩);simp(disch:=omega) only[go_sem,seval,reduceCtorEq,c4,c5,c];(refine zC (BT kk pp nn hr) ?_);refine zV ?_;refine⟨by omega,by rw[hlr];omega, ?_⟩;rw[e2, ← e];exact zX
 have c6:(kk==6)=false:=by simp [h6]
 have e:oneE ⟨kk,pp,nn⟩ wd=(List.replicate wd 0).set 0 1:=by unfold oneE;rw[if_neg (fun h=>h.elim h5 h6),if_neg h4]
 have e2:=gB h1.1 1;simp(disch:=omega) only[go_sem,seval,reduceCtorEq,c4,c5,c6];refine⟨by omega,by rw[hlr];omega, ?_⟩;rw[e2, ← e];exact zX
theorem v6{kk pp nn:Int}{wd:Nat}(hr:ai ⟨kk,pp,nn⟩=true)(hw:af ⟨kk,pp,nn⟩=wd)(h1:1≤wd∧wd≤6):Does Tryz.prog 89 [aY kk pp nn] [] (tenA (Sem.ew ⟨kk,pp,nn⟩ wd)) []:=by
 have hol:=gC ⟨kk,pp,nn⟩ wd;refine xM (g0:=true) (g1:=true) (g2:=true) ?_;unfold Sem.ew;simp only[ownT,hol];refine zS Tryz.func89 ur ?_;unfold mz;refine zT ?_;(refine zC (Fh hr hw h1) ?_);refine zV ?_;refine FnEnd.wk (Wk.trans (Wk.nilS 1 0 1 _ _ _ rfl rfl) (Wk.nilS 1 1 1 _ _ _ rfl rfl)) ?_;exact zX
theorem IU{kk pp nn:Int}{a b:Ten}{keep:List Int}{wd:Nat}(hr:ai ⟨kk,pp,nn⟩=true)(hw:af ⟨kk,pp,nn⟩=wd)(ha:TSz 1048576 a)(hb:TSz 1048576 b)(hk:Sz 1048576 keep)(hc:conB ⟨kk,pp,nn⟩ a b keep=true):
  Does Tryz.prog 119 [aY kk pp nn,tenA a,tenA b,.d (ints keep)] [] (.tup [ownT 0 (conR ⟨kk,pp,nn⟩ wd a b keep),.d (.bool true)]) (stoF (conR ⟨kk,pp,nn⟩ wd a b keep)):=by
 obtain⟨k1,k2,k3⟩:=jf hr;have h:=vR k1 k2 k3 ha hb hk;have e:conT ⟨kk,pp,nn⟩ a b keep=conR ⟨kk,pp,nn⟩ wd a b keep:=by
  unfold conT;rw[hc,hw]
  rfl
 rw[e,hc]at h;exact h
theorem MN{kk pp nn:Int}{a b:Ten}{keep:List Int}{wd:Nat}(hr:ai ⟨kk,pp,nn⟩=true)(hw:af ⟨kk,pp,nn⟩=wd)(ha:TSz 1048576 a)(hb:TSz 1048576 b)(hk:Sz 1048576 keep)(hc:conB ⟨kk,pp,nn⟩ a b keep=true):
  Does Tryz.prog 119 [aY kk pp nn,tenA a,tenA b,.d (ints keep)] [] (.tup [tenA (conR ⟨kk,pp,nn⟩ wd a b keep),.d (.bool true)]) []:=oX (IU hr hw ha hb hk hc)
theorem SumLabels_d{kk pp nn:Int}{t:Ten}{keep:List Int}{wd:Nat}(hr:ai ⟨kk,pp,nn⟩=true)(hw:af ⟨kk,pp,nn⟩=wd)(ht:TSz 1048576 t)(hs:TSz 1048576 (Sem.ew ⟨kk,pp,nn⟩ wd))(hk:Sz 1048576 keep)(hc:conB ⟨kk,pp,nn⟩ t (Sem.ew ⟨kk,pp,nn⟩ wd) keep=true):
  Does Tryz.prog 124 [aY kk pp nn,tenA t,.d (ints keep)] [] (tenA (conR ⟨kk,pp,nn⟩ wd t (Sem.ew ⟨kk,pp,nn⟩ wd) keep)) []:=by
 obtain⟨k1,k2,k3⟩:=jf hr;have hok:al ⟨kk,pp,nn⟩ t.labels t.dims t.data=true:=by
  simp only[conB,Bool.and_eq_true]at hc;exact hc.1.1.1.1
 have hwb:=wd6 hr hw;refine zS Tryz.func124 uy ?_;unfold mF;refine zT ?_;(refine zC (bM (t:=t) k1 k2 k3 ht.up) ?_);simp only[go_sem,seval,reduceCtorEq,hok];(refine zD (v6 hr hw hwb) ?_);refine zU ?_;(refine zD (MN hr hw ht hs hk hc) ?_);refine zU ?_;exact zX
end Go.Proofs.YtobhmajhachnaaaGreatDoor
