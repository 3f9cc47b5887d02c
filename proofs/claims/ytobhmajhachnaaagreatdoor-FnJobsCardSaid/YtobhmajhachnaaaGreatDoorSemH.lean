/-
 The value of a network by its definition is the sum over its closed labels of the product of its tensors. No condition.
-/
import Derived.Test.YtobhmajhachnaaaGreatDoorGenA
import Derived.Test.YtobhmajhachnaaaGreatDoorOrdB
import Derived.Test.YtobhmajhachnaaaGreatDoorPlD
set_option linter.unusedSimpArgs false
set_option linter.unusedVariables false
namespace Go.Proofs.YtobhmajhachnaaaGreatDoor.Sem
open Plain
def dimF(N:Net):Int→Nat:=fun x=>(dimN N.ts x).toNat
def ar(N:Net):List Int:=aX (labP N.ts) 100
section
variable {N : Net} {wd : Nat}
theorem kN(h:netOk N=true)(x:Int):(dimF N x:Int)=dimN N.ts x:=by
 have:=iL (bq h) x;unfold dimF;omega
theorem HJ(h:netOk N=true)(hw:af N.rg=wd){t:Ten}(ht:t∈N.ts):TV N.rg wd (dimF N) t:=by
 have hok:=(ae.1 h).2.2.1 t ht;have hf:=bI hok;have hax:=hf.2.1;have hdm:t.dims=ay (dimF N) t.labels:=by
  apply List.ext_getElem
  ·simp [ay,hax.len]
  intro k h1 h2
  have hk:k<t.labels.length:=by rw[hax.len];exact h1
  have e1:=jp h ht (List.getElem_mem hk);have e2:=gJ (t:=t) hax hk h1;simp only[ay,List.getElem_map];rw[kN h, ← e1,e2]
 refine⟨bE hax,hdm,fun x hx=> ?_, ?_, ?_⟩
 ·have e1:=jp h ht hx
  have e2:=cg hax hx;have e3:=kN h x;omega
 ·have e:=hf.2.2.2.2.2
  rw[hdm,cX,hw]at e
  exact_mod_cast e
 ·simp only[al,Bool.and_eq_true,jm,decide_eq_true_eq]at hok
  exact hok.2
theorem eW(h:netOk N=true){x:Int}:x∈ar N↔dimN N.ts x≠0:=Cd (bq h)
theorem fr(N:Net):(ar N).Nodup:=by
 unfold ar aX;refine List.Pairwise.map _ (fun a b h=> ?_) (List.nodup_range.filter _);intro e;exact h (by exact_mod_cast e)
theorem I3(h:netOk N=true):∀x∈ar N,1≤dimF N x:=fun x hx=>by
 have h1:=(eW h).1 hx;have h2:=iL (bq h) x;have h3:=kN h x;omega
theorem iW(h:netOk N=true){t:Ten}(ht:t∈N.ts){x:Int}(hx:x∈t.labels):x∈ar N:=by
 have e1:=jp h ht hx;have e2:=cg (bq h t ht) hx
 exact(eW h).2 (by omega)
theorem Hl(h:netOk N=true):axOk N.os (N.os.map (dimN N.ts)):=by
 have h0:=(ae.1 h).2.2.2.2
 false_or_by_contra
 rename_i hc;exact h0 (if_neg fun hc'=>hc hc'.1)
theorem yZ(h:netOk N=true):N.os.Nodup:=bE (Hl h)
theorem vb(h:netOk N=true):∀x∈N.os,x∈ar N:=fun x hx=>by
 have:=(Hl h).dim (dimN N.ts x) (List.mem_map.2 ⟨x,hx,rfl⟩)
 exact(eW h).2 (by omega)
theorem K6(h:netOk N=true):N.os.map (dimN N.ts)=ay (dimF N) N.os:=List.map_congr_left fun x _=>(kN h x).symm
def wgtI(N:Net)(wd:Nat)(k:Nat):List Int:=N.ts.foldl (fun acc t=>mulE N.rg acc (cutE t.data wd (bK t.labels t.dims (ar N) ((ar N).map (dimN N.ts)) k))) (oneE N.rg wd)
def nvO(N:Net)(k:Nat):Nat:=bK N.os (N.os.map (dimN N.ts)) (ar N) ((ar N).map (dimN N.ts)) k
def nvTo(N:Net)(wd:Nat)(z:List Int):Nat→List Int
 |0=>z
 |k+1=>putE (nvTo N wd z k) (nvO N k*wd) (addE N.rg (((nvTo N wd z k).drop (nvO N k*wd)).take wd) (wgtI N wd k))
def nvR(N:Net)(wd:Nat):Ten:=
 ⟨N.os,N.os.map (dimN N.ts),nvTo N wd (repE (aq N.rg.k N.rg.p wd) (aZ (N.os.map (dimN N.ts)))) (aZ ((ar N).map (dimN N.ts)))⟩
theorem EE{r:Rg}(hr:ai r=true)(hw:af r=wd){c:Ten→List Int}{e:Ten→Asg→Elt r wd}{b:Asg}:∀(ts:List Ten) (x:Elt r wd),(∀t∈ts,(e t b).val=c t)→
  ts.foldl (fun acc t=>mulE r acc (c t)) x.val=((aG hr hw).mul x (prL (aG hr hw) (ts.map e) b)).val
 | [],x,_=>by
  show x.val=((aG hr hw).mul x (aG hr hw).one).val
  rw[(aG hr hw).mul_one]
 |t :: ts,x,h=>by
  have h1:=h t List.mem_cons_self;have ih:=EE hr hw (c:=c) (e:=e) (b:=b) ts ((aG hr hw).mul x (e t b)) fun u hu=>h u (List.mem_cons_of_mem _ hu)
  rw[List.foldl_cons, ← h1];refine Eq.trans ih ?_;rw[List.map_cons,prL,(aG hr hw).mul_assoc]
def aE(N:Net):List Int:=(ar N).filter fun x=> !has N.os x
theorem FF(h:netOk N=true):(ar N).Perm (aE N++N.os):=by
 refine(List.perm_ext_iff_of_nodup (fr N) ?_).2 fun x=> ?_
 ·refine List.nodup_append.2 ⟨(fr N).filter _,yZ h,fun x hx y hy e=> ?_⟩
  subst e;have h1:=(List.mem_filter.1 hx).2;rw[aQ.2 hy]at h1;cases h1
 ·rw[List.mem_append,aE,List.mem_filter]
  constructor
  ·intro hx
   by_cases ho:x∈N.os
   ·exact .inr ho
   ·exact .inl ⟨hx,by rw[aI.2 ho];rfl⟩
  ·exact fun h'=>h'.elim (fun h'=>h'.1) (vb h x)
theorem HF(h:netOk N=true)(hw:af N.rg=wd):TV N.rg wd (dimF N) (nvR N wd)∧
  ∀a:Asg,(∀x∈N.os,a x<dimF N x)→elT (ae.1 h).1 hw (dimF N) (nvR N wd) a=valL (aG (ae.1 h).1 hw) (dimF N) (N.ts.map (elT (ae.1 h).1 hw (dimF N))) (aE N) a:=by
 have hr:=(ae.1 h).1;have hLn:=fr N;have hLd:=I3 h;have hon:=yZ h;have hoi:=vb h;have hod:=K6 h;have hld:(ar N).map (dimN N.ts)=ay (dimF N) (ar N):=List.map_congr_left fun x _=>(kN h x).symm
 have hop:∀x∈N.os,1≤dimF N x:=fun x hx=>hLd x (hoi x hx)
 have hasg:∀(a:Asg) (i:Nat) x,x∈ar N→asgN (dimF N) a (ar N) i x<dimF N x:=fun a i x hx=>iQ (dimF N) _ hLd a i x hx
 have hz:(aq N.rg.k N.rg.p wd).length=wd:=bz ..;have hO:∀(a:Asg) i,nvO N i=offR (dimF N) N.os (asgN (dimF N) a (ar N) i):=fun a i=>by
  unfold nvO;rw[hod,hld,fZ (dimF N) hLn hon hoi a i]
 have hacc:∀a:Asg,∀i,i≤pN (dimF N) (ar N)→(nvTo N wd (repE (aq N.rg.k N.rg.p wd) (pN (dimF N) N.os)) i).length=pN (dimF N) N.os*wd∧
   ∀k,k<pN (dimF N) N.os→cutE (nvTo N wd (repE (aq N.rg.k N.rg.p wd) (pN (dimF N) N.os)) i) wd k=
    (sm (aG hr hw) (fun j=>if nvO N j=k then prL (aG hr hw) (N.ts.map (elT hr hw (dimF N))) (asgN (dimF N) a (ar N) j) else (aG hr hw).zero) i).val:=fun a=>by
  refine Bk hr hw (T:=fun i=>nvTo N wd (repE (aq N.rg.k N.rg.p wd) (pN (dimF N) N.os)) i) ?_ ?_ ?_ ?_
  ·show (repE (aq N.rg.k N.rg.p wd) (pN (dimF N) N.os)).length=_
   rw[dH,hz]
  ·intro k hk
   exact me hz hk
  ·intro i hi
   have e:(prL (aG hr hw) (N.ts.map (elT hr hw (dimF N))) (asgN (dimF N) a (ar N) i)).val=wgtI N wd i:=by
    have:=EE hr hw (c:=fun t=>cutE t.data wd (bK t.labels t.dims (ar N) ((ar N).map (dimN N.ts)) i)) (e:=elT hr hw (dimF N)) (b:=asgN (dimF N) a (ar N) i) N.ts (aG hr hw).one fun t ht=>by
     have hT:=HJ h hw ht;rw[gk hr hw hT fun x hx=>hasg a i x (iW h ht hx),hld,hT.dm,fZ (dimF N) hLn hT.nd (fun x hx=>iW h ht hx) a i]
    rw[(aG hr hw).one_mul]at this;exact this.symm
   rw[e]
   rfl
  ·intro i hi
   rw[hO a i];exact dg (dimF N) fun x hx=>hasg a i x (hoi x hx)
 have hdat:(nvR N wd).data=nvTo N wd (repE (aq N.rg.k N.rg.p wd) (pN (dimF N) N.os)) (pN (dimF N) (ar N)):=by
  show nvTo N wd (repE (aq N.rg.k N.rg.p wd) (aZ (N.os.map (dimN N.ts)))) (aZ ((ar N).map (dimN N.ts)))=_
  rw[hod,hld,dJ,dJ]
 have hlab:(nvR N wd).labels=N.os:=rfl;have hT:TV N.rg wd (dimF N) (nvR N wd):=by
  refine⟨hon,hod,hop, ?_, ?_⟩
  ·rw[hdat,hlab];exact(hacc (fun _=>0) _ (Nat.le_refl _)).1
  ·rw[hdat]
   obtain⟨h1,h2⟩:=hacc (fun _=>0) _ (Nat.le_refl _);refine j5 hr hw h1 fun k hk=> ?_
   rw[h2 k hk];exact Subtype.property _
 refine⟨hT,fun a ha=> ?_⟩;refine rF hr hw hT ha ?_;rw[hdat,hlab,(hacc a _ (Nat.le_refl _)).2 _ (dg (dimF N) ha)]
 congr 1
 have e1:sm (aG hr hw) (fun j=>if nvO N j=offR (dimF N) N.os a then prL (aG hr hw) (N.ts.map (elT hr hw (dimF N))) (asgN (dimF N) a (ar N) j) else (aG hr hw).zero) (pN (dimF N) (ar N))=
   sm (aG hr hw) (fun j=>(fun b=>if agr N.os b a=true then prL (aG hr hw) (N.ts.map (elT hr hw (dimF N))) b else (aG hr hw).zero) (asgN (dimF N) a (ar N) j)) (pN (dimF N) (ar N)):=by
  refine cn _ fun j hj=> ?_
  have hiff:nvO N j=offR (dimF N) N.os a↔agr N.os (asgN (dimF N) a (ar N) j) a=true:=by
   rw[hO a j,kO];exact⟨fun e=>sp (dimF N) (fun x hx=>hasg a j x (hoi x hx)) ha e,fun e=>fT (dimF N) e⟩
  by_cases h:nvO N j=offR (dimF N) N.os a
  ·simp only[if_pos h,if_pos (hiff.1 h)]
  ·simp only[if_neg h,if_neg fun e=>h (hiff.2 e)]
 have e3:=At (aG hr hw) (dimF N) (fun b=>if agr N.os b a=true then prL (aG hr hw) (N.ts.map (elT hr hw (dimF N))) b else (aG hr hw).zero) (ar N) hLd a;refine e1.trans (e3.trans ?_);rw[iT _ (dimF N) (FF h) hLn,od];unfold valL;refine bS _ (dimF N) fun a' ha'=> ?_
 have hdis:∀x∈N.os,x∉aE N:=fun x hx h'=>by
  have h2:=(List.mem_filter.1 h').2;rw[aQ.2 hx]at h2;cases h2
 have haa:∀x∈N.os,a' x=a x:=fun x hx=>ha'.1 x (hdis x hx)
 have e2:sumL (aG hr hw) (dimF N) N.os (fun b=>if agr N.os b a=true then prL (aG hr hw) (N.ts.map (elT hr hw (dimF N))) b else (aG hr hw).zero) a'=
   sumL (aG hr hw) (dimF N) N.os (fun b=>if agr N.os b a'=true then prL (aG hr hw) (N.ts.map (elT hr hw (dimF N))) b else (aG hr hw).zero) a':=by
  refine bS _ (dimF N) fun b _=> ?_
  have:agr N.os b a=agr N.os b a':=Bool.eq_iff_iff.2 (by
   rw[kO,kO];exact⟨fun h x hx=>(h x hx).trans (haa x hx).symm,fun h x hx=>(h x hx).trans (haa x hx)⟩)
  rw[this]
 rw[e2];refine wz (aG hr hw) (dimF N) hon (fun x hx=>by rw[haa x hx];exact ha x hx) (fun b b' hb=> ?_) a' fun _ _=>rfl
 have:b=b':=funext hb;rw[this]
end
end Go.Proofs.YtobhmajhachnaaaGreatDoor.Sem
namespace Go.Proofs.YtobhmajhachnaaaGreatDoor.Sem
open Plain
section
variable {N : Net} {wd n : Nat} {F : List Int}
def tA(N:Net)(wd:Nat)(F:List Int):Nat→Nat→Ten
 |0,i=>N.ts.getD i ⟨[],[],[]⟩
 |k+1,i=>if i=N.ts.length+k then conR N.rg wd (tA N wd F k (stA F k)) (tA N wd F k (stB F k)) ((ordS N F k).res N.os (stA F k) (stB F k)) else tA N wd F k i
def occ(s:Osd)(x:Int):Bool:=s.nums.any fun i=>has (s.lab i) x
theorem Ep{s:Osd}{x:Int}:occ s x=true↔∃i,i∈s.nums∧x∈s.lab i:=by
 simp [occ,aQ]
def Rk(N:Net)(F:List Int)(k:Nat):List Int:=(aE N).filter (occ (ordS N F k))
theorem uf{x:Int}{k:Nat}:x∈Rk N F k↔(x∈ar N∧x∉N.os)∧∃i,i∈(ordS N F k).nums∧x∈(ordS N F k).lab i:=by
 unfold Rk aE;rw[List.mem_filter,List.mem_filter,Ep];simp only[Bool.not_eq_true',aI]
theorem Rk_nd(k:Nat):(Rk N F k).Nodup:=((fr N).filter _).filter _
structure InvT(N:Net)(wd:Nat)(F:List Int)(h:netOk N=true)(hw:af N.rg=wd)(k:Nat):Prop where
 tv:∀i,i<N.ts.length+k→TV N.rg wd (dimF N) (tA N wd F k i)
 lab:∀i,i<N.ts.length+k→(tA N wd F k i).labels=(ordS N F k).lab i
 sub:∀i,i<N.ts.length+k→∀x∈(ordS N F k).lab i,x∈ar N
 len:(ordS N F k).nums.length+k=N.ts.length
 val:∀a:Asg,(∀x∈N.os,a x<dimF N x)→valL (aG (ae.1 h).1 hw) (dimF N) ((ordS N F k).nums.map fun i=>elT (ae.1 h).1 hw (dimF N) (tA N wd F k i)) (Rk N F k) a=
  valL (aG (ae.1 h).1 hw) (dimF N) (N.ts.map (elT (ae.1 h).1 hw (dimF N))) (aE N) a
theorem lY(ts:List Ten):(bb ts).nums=List.range ts.length:=by
 unfold Osd.nums;have:(bb ts).all.length=ts.length:=by simp [bb]
 rw[this];refine List.filter_eq_self.2 fun i hi=> ?_
 have hi':=List.mem_range.1 hi;simp [Osd.alive,bb,zq,hi']
theorem Cc{ts:List Ten}{i:Nat}(hi:i<ts.length):(bb ts).lab i=(ts.getD i ⟨[],[],[]⟩).labels:=by
 simp [Osd.lab,bb,zq,hi]
theorem FS(h:netOk N=true)(hw:af N.rg=wd):InvT N wd F h hw 0:=by
 have hmem:∀i,i<N.ts.length→N.ts.getD i ⟨[],[],[]⟩∈N.ts:=fun i hi=>by
  rw[zq,zg hi];exact List.getElem_mem hi
 have hnums:(ordS N F 0).nums=List.range N.ts.length:=lY N.ts;have hlab:∀i,i<N.ts.length→(ordS N F 0).lab i=(N.ts.getD i ⟨[],[],[]⟩).labels:=fun i hi=>Cc hi
 refine⟨fun i hi=>HJ h hw (hmem i hi),fun i hi=>(hlab i hi).symm,fun i hi x hx=> ?_,by rw[hnums];simp,fun a _=> ?_⟩
 ·rw[hlab i hi]at hx
  exact iW h (hmem i hi) hx
 ·have e1:((ordS N F 0).nums.map fun i=>elT (ae.1 h).1 hw (dimF N) (tA N wd F 0 i))=N.ts.map (elT (ae.1 h).1 hw (dimF N)):=by
   rw[hnums];apply List.ext_getElem
   ·simp
   intro i h1 h2
   have hi:i<N.ts.length:=by simpa using h1
   simp [tA,zq,hi]
  have e2:Rk N F 0=aE N:=List.filter_eq_self.2 fun x hx=>by
   obtain⟨hx1,_⟩:=List.mem_filter.1 hx;obtain⟨t,ht,hxt⟩:=oF ((eW h).1 hx1);obtain⟨i,hi,rfl⟩:=List.getElem_of_mem ht;refine Ep.2 ⟨i, ?_, ?_⟩
   ·rw[hnums];exact List.mem_range.2 hi
   ·rw[hlab i hi,zq,zg hi];exact hxt
  rw[e1,e2]
theorem ze{l:List Nat}(hn:l.Nodup){a b:Nat}(ha:a∈l)(hb:b∈l)(hne:a≠b):l.Perm (a :: b :: l.filter (Osd.off a b)):=by
 refine(List.perm_ext_iff_of_nodup hn ?_).2 fun x=> ?_
 ·refine List.nodup_cons.2 ⟨?_,List.nodup_cons.2 ⟨?_,hn.filter _⟩⟩
  ·rw[List.mem_cons,List.mem_filter]
   rintro (e|⟨_,e⟩)
   ·exact hne e
   ·simp [Osd.off]at e
  ·rw[List.mem_filter]
   rintro⟨_,e⟩
   simp [Osd.off]at e
 ·rw[List.mem_cons,List.mem_cons,List.mem_filter]
  constructor
  ·intro hx
   by_cases e1:x=a
   ·exact .inl e1
   by_cases e2:x=b
   ·exact .inr (.inl e2)
   ·exact .inr (.inr ⟨hx,by simp [Osd.off,e1,e2]⟩)
  ·rintro (e|e|⟨e,_⟩)
   ·rw[e];exact ha
   ·rw[e];exact hb
   ·exact e
theorem FT(hok:bo N n F=true)(hw:af N.rg=wd){k:Nat}(hk:k<n)(hI:InvT N wd F (bc.1 hok).1 hw k):InvT N wd F (bc.1 hok).1 hw (k+1):=by
 have h:=(bc.1 hok).1;have hr:=(ae.1 h).1;have hs:=mV hok hk;have ho:=(qA hok k (by omega)).ok;have hab:=hs.at (qA hok k (by omega));have hne:stA F k≠stB F k:=by have:=hs.lt;omega
 have tvA:=hI.tv _ hab.1;have tvB:=hI.tv _ hab.2;have lA:=hI.lab _ hab.1;have lB:=hI.lab _ hab.2;obtain⟨tvR,elR⟩:=DW hr hw tvA tvB ((ordS N F k).res N.os (stA F k) (stB F k));have hnums:(ordS N F (k+1)).nums=(ordS N F k).nums.filter (Osd.off (stA F k) (stB F k))++[N.ts.length+k]:=by rw[hs.nx];exact fU ho
 have hlabO:∀i,i<N.ts.length+k→(ordS N F (k+1)).lab i=(ordS N F k).lab i:=fun i hi=>by rw[hs.nx];exact sC ho hi
 have hlabN:(ordS N F (k+1)).lab (N.ts.length+k)=(ordS N F k).res N.os (stA F k) (stB F k):=by rw[hs.nx];exact iz ho
 have hperm:=ze (dL (ordS N F k)) hs.ma hs.mb hne;have hcl:conL (tA N wd F k (stA F k)) (tA N wd F k (stB F k))=aF ((ordS N F k).lab (stA F k)) ((ordS N F k).lab (stB F k)):=by unfold conL;rw[lA,lB]
 have hres:∀x,x∈(ordS N F k).res N.os (stA F k) (stB F k)↔x∈conL (tA N wd F k (stA F k)) (tA N wd F k (stB F k))∧(x∈N.os∨∃i,i∈(ordS N F k).nums∧Osd.off (stA F k) (stB F k) i=true∧x∈(ordS N F k).lab i):=fun x=>by
  unfold Osd.res;rw[List.mem_filter,aQ,hcl,Osd.keep,List.mem_append,List.mem_flatMap];refine and_congr Iff.rfl (or_congr Iff.rfl ⟨fun⟨i,h1,h2⟩=> ?_,fun⟨i,h1,h2,h3⟩=> ?_⟩)
  ·obtain⟨h3,h4⟩:=List.mem_filter.1 h1
   exact⟨i,h3,h4,h2⟩
  ·exact⟨i,List.mem_filter.2 ⟨h1,h2⟩,h3⟩
 have hK:conK (tA N wd F k (stA F k)) (tA N wd F k (stB F k)) ((ordS N F k).res N.os (stA F k) (stB F k))=(ordS N F k).res N.os (stA F k) (stB F k):=by
  have e:(ordS N F k).res N.os (stA F k) (stB F k)=(conL (tA N wd F k (stA F k)) (tA N wd F k (stB F k))).filter (has ((ordS N F k).keep N.os (stA F k) (stB F k))):=by rw[hcl];rfl
  unfold conK;refine Eq.trans (List.filter_congr fun x hx=> ?_) e.symm;rw[Bool.eq_iff_iff,aQ,e,List.mem_filter];exact⟨fun h=>h.2,fun h=>⟨hx,h⟩⟩
 have hX:∀x,x∈conX (tA N wd F k (stA F k)) (tA N wd F k (stB F k)) ((ordS N F k).res N.os (stA F k) (stB F k))↔x∈conL (tA N wd F k (stA F k)) (tA N wd F k (stB F k))∧x∉(ordS N F k).res N.os (stA F k) (stB F k):=fun x=>by
  unfold conX;rw[List.mem_filter,Bool.not_eq_true',aI]
 have hL:∀x,x∈conL (tA N wd F k (stA F k)) (tA N wd F k (stB F k))↔x∈(ordS N F k).lab (stA F k)∨x∈(ordS N F k).lab (stB F k):=fun x=>by rw[hcl];exact bm
 have hLs:∀x,x∈conL (tA N wd F k (stA F k)) (tA N wd F k (stB F k))→x∈ar N:=fun x hx=>((hL x).1 hx).elim (hI.sub _ hab.1 x) (hI.sub _ hab.2 x)
 have hlt:∀i,i∈(ordS N F k).nums→i<N.ts.length+k:=fun i hi=>by have:=(eC.1 hi).1;rw[ho.n]at this;exact this
 have hto:∀i,i<N.ts.length+k→tA N wd F (k+1) i=tA N wd F k i:=fun i hi=>by rw[tA,if_neg (by omega)]
 have htn:tA N wd F (k+1) (N.ts.length+k)=conR N.rg wd (tA N wd F k (stA F k)) (tA N wd F k (stB F k)) ((ordS N F k).res N.os (stA F k) (stB F k)):=by rw[tA,if_pos rfl]
 refine⟨fun i hi=> ?_,fun i hi=> ?_,fun i hi x hx=> ?_, ?_,fun a ha=> ?_⟩
 ·by_cases e:i=N.ts.length+k
  ·rw[e,htn];exact tvR
  ·rw[hto i (by omega)];exact hI.tv i (by omega)
 ·by_cases e:i=N.ts.length+k
  ·rw[e,htn,hlabN];exact hK
  ·rw[hto i (by omega),hlabO i (by omega)];exact hI.lab i (by omega)
 ·by_cases e:i=N.ts.length+k
  ·rw[e,hlabN]at hx
   exact hLs x ((hres x).1 hx).1
  ·rw[hlabO i (by omega)]at hx
   exact hI.sub i (by omega) x hx
 ·have h1:=hperm.length_eq
  have h2:=hI.len;rw[Zl,Zl]at h1;rw[hnums,List.length_append,List.length_singleton];omega
 ·rw[← hI.val a ha]
  have e1:((ordS N F (k+1)).nums.map fun i=>elT hr hw (dimF N) (tA N wd F (k+1) i)).Perm
    (elT hr hw (dimF N) (conR N.rg wd (tA N wd F k (stA F k)) (tA N wd F k (stB F k)) ((ordS N F k).res N.os (stA F k) (stB F k))) :: ((ordS N F k).nums.filter (Osd.off (stA F k) (stB F k))).map fun i=>elT hr hw (dimF N) (tA N wd F k i)):=by
   rw[hnums,List.map_append,List.map_cons,List.map_nil,htn];have:(((ordS N F k).nums.filter (Osd.off (stA F k) (stB F k))).map fun i=>elT hr hw (dimF N) (tA N wd F (k+1) i))=((ordS N F k).nums.filter (Osd.off (stA F k) (stB F k))).map fun i=>elT hr hw (dimF N) (tA N wd F k i):=
    List.map_congr_left fun i hi=>by rw[hto i (hlt i (List.mem_filter.1 hi).1)]
   rw[this];exact List.perm_append_comm
  have e2:valL (aG hr hw) (dimF N) ((ordS N F (k+1)).nums.map fun i=>elT hr hw (dimF N) (tA N wd F (k+1) i)) (Rk N F (k+1)) a=
    valL (aG hr hw) (dimF N) (elT hr hw (dimF N) (conR N.rg wd (tA N wd F k (stA F k)) (tA N wd F k (stB F k)) ((ordS N F k).res N.os (stA F k) (stB F k))) :: ((ordS N F k).nums.filter (Osd.off (stA F k) (stB F k))).map fun i=>elT hr hw (dimF N) (tA N wd F k i)) (Rk N F (k+1)) a:=
   bS _ _ fun a' _=>BV _ e1 a'
  refine e2.trans (F0 (aG hr hw) (dimF N) (t:=elT hr hw (dimF N) (tA N wd F k (stA F k))) (u:=elT hr hw (dimF N) (tA N wd F k (stB F k))) (drop:=conX (tA N wd F k (stA F k)) (tA N wd F k (stB F k)) ((ordS N F k).res N.os (stA F k) (stB F k))) ?_ ?_ (Rk_nd k) ?_ a ?_).symm
  ·exact hperm.map _
  ·refine(List.perm_ext_iff_of_nodup (Rk_nd k) ?_).2 fun x=> ?_
   ·refine List.nodup_append.2 ⟨Rk_nd _,(wc tvA tvB).filter _,fun x hx y hy e=> ?_⟩
    subst e;obtain⟨_,i,hi,hxi⟩:=uf.1 hx;obtain⟨hy1,hy2⟩:=(hX x).1 hy;rw[hnums,List.mem_append,List.mem_singleton]at hi;rcases hi with hi|hi
    ·obtain⟨h3,h4⟩:=List.mem_filter.1 hi
     rw[hlabO i (hlt i h3)]at hxi;exact hy2 ((hres x).2 ⟨hy1,.inr ⟨i,h3,h4,hxi⟩⟩)
    ·rw[hi,hlabN]at hxi
     exact hy2 hxi
   ·rw[List.mem_append,uf,uf,hX]
    constructor
    ·rintro⟨hc,i,hi,hxi⟩
     by_cases hoff:Osd.off (stA F k) (stB F k) i=true
     ·refine .inl ⟨hc,i, ?_,by rw[hlabO i (hlt i hi)];exact hxi⟩
      rw[hnums];exact List.mem_append_left _ (List.mem_filter.2 ⟨hi,hoff⟩)
     ·have hj:x∈conL (tA N wd F k (stA F k)) (tA N wd F k (stB F k)):=by
       rw[hL];by_cases ea:i=stA F k
       ·rw[ea]at hxi;exact .inl hxi
       by_cases eb:i=stB F k
       ·rw[eb]at hxi;exact .inr hxi
       ·exact absurd (by simp [Osd.off,ea,eb]) hoff
      by_cases hxr:x∈(ordS N F k).res N.os (stA F k) (stB F k)
      ·refine .inl ⟨hc,N.ts.length+k, ?_,by rw[hlabN];exact hxr⟩
       rw[hnums];exact List.mem_append_right _ (List.mem_singleton.2 rfl)
      ·exact .inr ⟨hj,hxr⟩
    ·rintro (⟨hc,i,hi,hxi⟩|⟨hj,hxr⟩)
     ·rw[hnums,List.mem_append,List.mem_singleton]at hi
      rcases hi with hi|hi
      ·obtain⟨h3,h4⟩:=List.mem_filter.1 hi
       rw[hlabO i (hlt i h3)]at hxi;exact⟨hc,i,h3,hxi⟩
      ·rw[hi,hlabN]at hxi
       rcases(hL x).1 ((hres x).1 hxi).1 with h3|h3
       ·exact⟨hc,_,hs.ma,h3⟩
       ·exact⟨hc,_,hs.mb,h3⟩
     ·refine⟨⟨hLs x hj,fun hx=>hxr ((hres x).2 ⟨hj,.inl hx⟩)⟩, ?_⟩
      rcases(hL x).1 hj with h3|h3
      ·exact⟨_,hs.ma,h3⟩
      ·exact⟨_,hs.mb,h3⟩
  ·intro s hs'
   obtain⟨i,hi,rfl⟩:=List.mem_map.1 hs';obtain⟨h3,h4⟩:=List.mem_filter.1 hi;refine KF hr hw fun x hx hxl=> ?_
   obtain⟨hy1,hy2⟩:=(hX x).1 hx;rw[hI.lab i (hlt i h3)]at hxl;exact hy2 ((hres x).2 ⟨hy1,.inr ⟨i,h3,h4,hxl⟩⟩)
  ·intro a' ha'
   refine elR a' fun x hx=> ?_
   rw[hK]at hx;by_cases hxo:x∈N.os
   ·rw[ha'.1 x fun h'=>(uf.1 h').1.2 hxo]
    exact ha x hxo
   ·refine ha'.2 x (uf.2 ⟨⟨hLs x ((hres x).1 hx).1,hxo⟩,N.ts.length+k, ?_,by rw[hlabN];exact hx⟩)
    rw[hnums];exact List.mem_append_right _ (List.mem_singleton.2 rfl)
theorem invT(hok:bo N n F=true)(hw:af N.rg=wd):∀k,k≤n→InvT N wd F (bc.1 hok).1 hw k
 |0,_=>FS _ hw
 |k+1,hk=>FT hok hw (by omega) (invT hok hw k (by omega))
end
end Go.Proofs.YtobhmajhachnaaaGreatDoor.Sem
namespace Go.Proofs.YtobhmajhachnaaaGreatDoor
open Plain Go.Proofs.YtobhmajhachnaaaGreatDoor.Sem
def lvs(m:Nat)(F:List Int)(k:Nat):List Nat:=
 if h:stA F (k-m)<k∧stB F (k-m)<k∧m≤k then lvs m F (stA F (k-m))++lvs m F (stB F (k-m)) else [k]
termination_by k
decreasing_by all_goals omega
def nds(m:Nat)(F:List Int)(k:Nat):List Nat:=
 if h:stA F (k-m)<k∧stB F (k-m)<k∧m≤k then nds m F (stA F (k-m))++nds m F (stB F (k-m))++[k-m] else []
termination_by k
decreasing_by all_goals omega
section
variable {m : Nat} {F : List Int}
theorem HX{k:Nat}(h:k<m):lvs m F k=[k]:=by rw[lvs,dif_neg (by omega)]
theorem HM{k:Nat}(h:k<m):nds m F k=[]:=by rw[nds,dif_neg (by omega)]
theorem HW{j:Nat}(h1:stA F j<m+j)(h2:stB F j<m+j):lvs m F (m+j)=lvs m F (stA F j)++lvs m F (stB F j):=by
 rw[lvs,show m+j-m=j by omega,dif_pos (by omega)]
theorem HL{j:Nat}(h1:stA F j<m+j)(h2:stB F j<m+j):nds m F (m+j)=nds m F (stA F j)++nds m F (stB F j)++[j]:=by
 rw[nds,show m+j-m=j by omega,dif_pos (by omega)]
end
section
variable {N : Net} {n : Nat} {F : List Int}
theorem zH{α:Type}(f:Nat→List α)(g:Nat→List α)(l:List Nat)(h:∀i∈l,f i=g i):l.flatMap f=l.flatMap g:=by
 induction l with
 |nil=>rfl
 |cons x l ih=>rw[List.flatMap_cons,List.flatMap_cons,h x List.mem_cons_self,ih fun i hi=>h i (List.mem_cons_of_mem _ hi)]
theorem share(hok:bo N n F=true):∀q,q≤n→((ordS N F q).nums.flatMap (lvs N.ts.length F)).Perm (List.range N.ts.length)∧((ordS N F q).nums.flatMap (nds N.ts.length F)).Perm (List.range q)
 |0,_=>by
  rw[show (ordS N F 0).nums=List.range N.ts.length from lY N.ts]
  constructor
  ·rw[zH _ (fun i=>[i]) _ fun i hi=>HX (List.mem_range.1 hi)]
   have:(List.range N.ts.length).flatMap (fun i=>[i])=List.range N.ts.length:=by simp
   rw[this]
  ·rw[zH _ (fun _=>[]) _ fun i hi=>HM (List.mem_range.1 hi)]
   simp
 |q+1,hq=>by
  obtain⟨h1,h2⟩:=share hok q (by omega);have hs:=mV hok (show q<n by omega);have ho:=qA hok q (by omega);have hab:=hs.at ho;have hne:stA F q≠stB F q:=by have:=hs.lt;omega
  have hp:=ze (dL (ordS N F q)) hs.ma hs.mb hne;have hn:(ordS N F (q+1)).nums=(ordS N F q).nums.filter (Osd.off (stA F q) (stB F q))++[N.ts.length+q]:=by rw[hs.nx];exact fU ho.ok
  have e1:=(hp.flatMap_right (lvs N.ts.length F)).symm.trans h1;have e2:=(hp.flatMap_right (nds N.ts.length F)).symm.trans h2;rw[List.flatMap_cons,List.flatMap_cons]at e1 e2;rw[hn,List.flatMap_append,List.flatMap_append];simp only[List.flatMap_cons,List.flatMap_nil,List.append_nil];rw[HW hab.1 hab.2,HL hab.1 hab.2];refine⟨?_, ?_⟩
  ·refine List.Perm.trans ?_ e1
   rw[← List.append_assoc (lvs N.ts.length F (stA F q))];exact List.perm_append_comm
  ·rw[List.range_succ, ← List.append_assoc]
   refine List.Perm.append_right _ (List.Perm.trans ?_ e2);rw[← List.append_assoc (nds N.ts.length F (stA F q))];exact List.perm_append_comm
end
section
variable {N : Net} {n : Nat} {F : List Int}
end
section
variable {N : Net} {n : Nat} {F G : List Int}
end
end Go.Proofs.YtobhmajhachnaaaGreatDoor
namespace Go.Proofs.YtobhmajhachnaaaGreatDoor.Sem
open Plain
section
variable {r : Rg} {wd : Nat} (hr : ai r = true) (hw : af r = wd) {dim : Int → Nat}
def ew(r:Rg)(wd:Nat):Ten:=⟨[],[],oneE r wd⟩
include hr hw in
theorem se:TV r wd dim (ew r wd):=by
 refine⟨List.nodup_nil,rfl,fun x hx=>(by cases hx), ?_,(El.unit hr hw).fit⟩
 show (oneE r wd).length=1*wd
 rw[gC,Nat.one_mul]
theorem Ea(a:Asg):elT hr hw dim (ew r wd) a=(aG hr hw).one:=
 rF hr hw (se hr hw) (fun x hx=>by cases hx) (by
  show cutE (oneE r wd) wd 0=oneE r wd
  unfold cutE;rw[Nat.zero_mul,List.drop_zero];exact zt (by rw[gC];exact Nat.le_refl _))
theorem uS{src:List Int}{f:Nat→Nat}{n0:Nat}(hs:src.length=n0*wd):∀{n k:Nat},(∀i,i<n→f i<n0)→k<n→cutE (gath src wd f n) wd k=cutE src wd (f k)
 |0,k,_,h=>by omega
 |n+1,k,hf,h=>by
  have hb:∀i,i<n+1→f i*wd+wd≤src.length:=fun i hi=>by
   have:=Nat.mul_le_mul_right wd (show f i+1≤n0 from hf i hi);rw[Nat.succ_mul]at this;omega
  have hl:(gath src wd f n).length=n*wd:=dP fun i hi=>hb i (by omega)
  unfold cutE;by_cases e:k=n
  ·subst e
   rw[gath,List.drop_append_of_le_length (by omega),List.drop_of_length_le (by omega),List.nil_append,zt (by rw[List.length_take];omega)]
  ·have hk:k<n:=by omega
   have h2:=Nat.mul_le_mul_right wd (show k+1≤n from hk);rw[Nat.succ_mul]at h2;have ih:=uS hs (f:=f) (fun i hi=>hf i (by omega)) hk;unfold cutE at ih;rw[gath,List.drop_append_of_le_length (by omega),List.take_append_of_le_length (by rw[List.length_drop];omega)];exact ih
theorem Ek{t:Ten}(h:TV r wd dim t){L:List Int}(hL:L.Nodup)(hs:∀x,x∈L↔x∈t.labels):TV r wd dim (cq wd t L)∧∀a:Asg,(∀x∈L,a x<dim x)→elT hr hw dim (cq wd t L) a=elT hr hw dim t a:=by
 have hd:aM t L=ay dim L:=List.map_congr_left fun x hx=>h.dimEq ((hs x).1 hx)
 have hdp:∀x∈L,1≤dim x:=fun x hx=>h.dp x ((hs x).1 hx)
 have hoff:∀(a:Asg) i,ci t L i=offR dim t.labels (asgN dim a L i):=fun a i=>by
  show bK t.labels t.dims L (aM t L) i=_
  rw[hd,h.dm,fZ dim hL h.nd (fun x hx=>(hs x).2 hx) a i]
 have hlt:∀i,ci t L i<pN dim t.labels:=fun i=>by
  rw[hoff (fun _=>0) i];exact dg dim fun x hx=>iQ dim L hdp _ i x ((hs x).2 hx)
 have hn:lT t L=pN dim L:=by
  unfold lT;rw[hd,cX];rfl
 have hdat:(cq wd t L).data=gath t.data wd (ci t L) (pN dim L):=by
  show gath t.data wd (ci t L) (lT t L)=_
  rw[hn]
 have hcut:∀k,k<pN dim L→cutE (cq wd t L).data wd k=cutE t.data wd (ci t L k):=fun k hk=>by
  rw[hdat];exact uS h.len (fun i _=>hlt i) hk
 have hlen:(cq wd t L).data.length=pN dim L*wd:=by
  rw[hdat];refine dP fun i _=> ?_
  have:=Nat.mul_le_mul_right wd (show ci t L i+1≤pN dim t.labels from hlt i);rw[Nat.succ_mul]at this;rw[h.len];omega
 have hT:TV r wd dim (cq wd t L):=⟨hL,hd,hdp,hlen,j5 hr hw hlen fun k hk=>by rw[hcut k hk];exact h.el (hlt k)⟩;refine⟨hT,fun a ha=>rF hr hw hT ha ?_⟩;have hk:offR dim L a<pN dim L:=dg dim ha;have hag:∀x∈L,asgN dim a L (offR dim L a) x=a x:=sp dim (fun x hx=>iQ dim L hdp a _ x hx) ha (sq dim L hL hdp a _ hk);rw[gk hr hw h fun x hx=>ha x ((hs x).2 hx)]
 show cutE (cq wd t L).data wd (offR dim L a)=_
 rw[hcut _ hk,hoff a,fT dim fun x hx=>hag x ((hs x).2 hx)]
theorem Ao{t u:Ten}(ht:TV r wd dim t)(hu:TV r wd dim u)(hl:t.labels=u.labels)(h:∀a:Asg,(∀x∈t.labels,a x<dim x)→elT hr hw dim t a=elT hr hw dim u a):t=u:=by
 have hd:t.dims=u.dims:=by rw[ht.dm,hu.dm,hl]
 have hlt:=ht.len;have hlu:=hu.len;rw[← hl]at hlu;have hwd:=wd6 hr hw;have hc:∀k,k<pN dim t.labels→cutE t.data wd k=cutE u.data wd k:=fun k hk=>by
  have h1:=h (asgN dim (fun _=>0) t.labels k) fun x hx=>iQ dim _ ht.dp _ k x hx
  have h2:=congrArg Subtype.val h1;rw[gk hr hw ht (fun x hx=>iQ dim _ ht.dp _ k x hx),gk hr hw hu (fun x hx=>by rw[← hl]at hx;exact iQ dim _ ht.dp _ k x hx), ← hl,sq dim _ ht.nd ht.dp _ k hk]at h2;exact h2
 have hdat:t.data=u.data:=by
  refine fC hlt hlu fun i hi=> ?_
  have hq:i / wd<pN dim t.labels:=Nat.div_lt_of_lt_mul (by rw[Nat.mul_comm];exact hi);have hm:=Nat.mod_lt i (show 0<wd by omega);have hdm:=Nat.div_add_mod i wd;rw[Nat.mul_comm]at hdm;have e:∀xs:List Int,(cutE xs wd (i / wd)).getD (i % wd) 0=xs.getD i 0:=fun xs=>by
   unfold cutE;rw[zq,zq,List.getElem?_take,if_pos hm,List.getElem?_drop,hdm]
  rw[← e t.data, ← e u.data,hc _ hq]
 obtain⟨l1,d1,x1⟩:=t;obtain⟨l2,d2,x2⟩:=u;simp only at hl hd hdat;rw[hl,hd,hdat]
def finT(r:Rg)(wd:Nat)(t:Ten)(os:List Int):Ten:=cq wd (conR r wd t (ew r wd) os) os
theorem MH{t:Ten}(h:TV r wd dim t){os:List Int}(ho:os.Nodup)(hs:∀x∈os,x∈t.labels):TV r wd dim (finT r wd t os)∧
  ∀a:Asg,(∀x∈os,a x<dim x)→elT hr hw dim (finT r wd t os) a=sumL (aG hr hw) dim (t.labels.filter fun x=> !has os x) (elT hr hw dim t) a:=by
 obtain⟨h1,h2⟩:=DW hr hw h (se hr hw (dim:=dim)) os;have hcl:conL t (ew r wd)=t.labels:=by
  show t.labels++([]:List Int).filter _=t.labels
  simp
 have hK:∀x,x∈os↔x∈(conR r wd t (ew r wd) os).labels:=fun x=>by
  show x∈os↔x∈(conL t (ew r wd)).filter (has os)
  rw[hcl,List.mem_filter,aQ];exact⟨fun hx=>⟨hs x hx,hx⟩,fun hx=>hx.2⟩
 obtain⟨h3,h4⟩:=Ek hr hw h1 ho hK;refine⟨h3,fun a ha=>(h4 a ha).trans ((h2 a fun x hx=>ha x ((hK x).2 hx)).trans ?_)⟩;have hX:conX t (ew r wd) os=t.labels.filter fun x=> !has os x:=by unfold conX;rw[hcl]
 rw[hX];refine bS _ dim fun b _=> ?_
 rw[Ea,(aG hr hw).mul_one]
end
section
variable {N : Net} {wd n : Nat} {F : List Int}
theorem BZ(hok:bo N n F=true)(hw:af N.rg=wd)(hm:0<N.ts.length):TV N.rg wd (dimF N) (tA N wd F n (N.ts.length+n-1))∧(∀x∈N.os,x∈(tA N wd F n (N.ts.length+n-1)).labels)∧
  (ordS N F n).nums=[N.ts.length+n-1]∧finT N.rg wd (tA N wd F n (N.ts.length+n-1)) N.os=nvR N wd:=by
 have h:=(bc.1 hok).1;have hr:=(ae.1 h).1;have hn:=(bc.1 hok).2.1;have hI:=invT hok hw n (Nat.le_refl _);have hlen:=hI.len;have ho:=(qA hok n (Nat.le_refl _)).ok.n;have hone:(ordS N F n).nums=[N.ts.length+n-1]:=by
  by_cases e0:n=0
  ·subst e0
   rw[show (ordS N F 0).nums=List.range N.ts.length from lY N.ts];have:N.ts.length=1:=by omega
   rw[this];rfl
  ·obtain⟨q,rfl⟩:∃q,n=q+1:=⟨n-1,by omega⟩
   have hs:=mV hok (show q<q+1 by omega);have e:=fU (qA hok q (by omega)).ok (os:=N.os) (a:=stA F q) (b:=stB F q);rw[← hs.nx]at e;have hl:=congrArg List.length e;rw[List.length_append,List.length_singleton]at hl;have h0:((ordS N F q).nums.filter (Osd.off (stA F q) (stB F q))).length=0:=by omega
   rw[e,List.eq_nil_of_length_eq_zero h0,List.nil_append]
   congr 1
 have hlast:N.ts.length+n-1<N.ts.length+n:=by omega
 have tv:=hI.tv _ hlast;have lb:=hI.lab _ hlast;generalize hT:tA N wd F n (N.ts.length+n-1)=T at tv lb ⊢;have hmR:∀x,x∈Rk N F n↔x∈T.labels∧x∉N.os:=fun x=>by
  rw[uf,hone,lb]
  constructor
  ·rintro⟨hc,i,hi,hx⟩
   rw[List.mem_singleton.1 hi]at hx;exact⟨hx,hc.2⟩
  ·rintro⟨hx,hno⟩
   exact⟨⟨hI.sub _ hlast x hx,hno⟩,_,List.mem_singleton.2 rfl,hx⟩
 obtain⟨nvt,nve⟩:=HF h hw;have hos:∀x∈N.os,x∈T.labels:=by
  have hgen:∀k,k≤n→∀x∈N.os,∃i,i∈(ordS N F k).nums∧x∈(ordS N F k).lab i:=by
   intro k
   induction k with
   |zero=>
    intro _ x hx;obtain⟨t,ht,hxt⟩:=oF ((eW h).1 (vb h x hx));obtain⟨i,hi,rfl⟩:=List.getElem_of_mem ht;refine⟨i, ?_, ?_⟩
    ·rw[show (ordS N F 0).nums=List.range N.ts.length from lY N.ts];exact List.mem_range.2 hi
    ·rw[show (ordS N F 0).lab i=(N.ts.getD i ⟨[],[],[]⟩).labels from Cc hi,zq,zg hi];exact hxt
   |succ k ih=>
    intro hk x hx;obtain⟨i,hi,hxi⟩:=ih (by omega) x hx;have hs:=mV hok (show k<n by omega);have hok':=(qA hok k (by omega)).ok;have hil:i<N.ts.length+k:=by have:=(eC.1 hi).1;rw[hok'.n]at this;exact this
    have e:=fU hok' (os:=N.os) (a:=stA F k) (b:=stB F k);rw[hs.nx];by_cases hoff:Osd.off (stA F k) (stB F k) i=true
    ·refine⟨i, ?_,by rw[sC hok' hil];exact hxi⟩
     rw[e];exact List.mem_append_left _ (List.mem_filter.2 ⟨hi,hoff⟩)
    ·refine⟨N.ts.length+k, ?_, ?_⟩
     ·rw[e];exact List.mem_append_right _ (List.mem_singleton.2 rfl)
     ·rw[iz hok',Osd.res,List.mem_filter,aQ,Osd.keep,List.mem_append]
      refine⟨bm.2 ?_,.inl hx⟩;by_cases ea:i=stA F k
      ·rw[ea]at hxi;exact .inl hxi
      by_cases eb:i=stB F k
      ·rw[eb]at hxi;exact .inr hxi
      ·exact absurd (by simp [Osd.off,ea,eb]) hoff
  intro x hx;obtain⟨i,hi,hxi⟩:=hgen n (Nat.le_refl _) x hx;rw[hone]at hi;rw[List.mem_singleton.1 hi]at hxi;rw[lb];exact hxi
 refine⟨tv,hos,hone, ?_⟩;obtain⟨ft,fe⟩:=MH hr hw tv (yZ h) hos;refine Ao hr hw ft nvt rfl fun a ha=> ?_
 rw[fe a ha,nve a ha, ← hI.val a ha,hone];unfold valL;have hp:(T.labels.filter fun x=> !has N.os x).Perm (Rk N F n):=(List.perm_ext_iff_of_nodup (tv.nd.filter _) (Rk_nd n)).2 fun x=>by
  rw[hmR,List.mem_filter,Bool.not_eq_true',aI]
 rw[iT _ _ hp (tv.nd.filter _)];refine bS _ _ fun b _=> ?_
 show elT hr hw (dimF N) T b=(aG hr hw).mul (elT hr hw (dimF N) (tA N wd F n (N.ts.length+n-1)) b) (aG hr hw).one
 rw[hT,(aG hr hw).mul_one]
end
end Go.Proofs.YtobhmajhachnaaaGreatDoor.Sem
namespace Go.Proofs.YtobhmajhachnaaaGreatDoor
open Plain Go.Proofs.YtobhmajhachnaaaGreatDoor.Sem
section
variable {N : Net} {m n : Nat} {F : List Int}
end
section
variable {N : Net} {n : Nat} {F G : List Int}
end
end Go.Proofs.YtobhmajhachnaaaGreatDoor
