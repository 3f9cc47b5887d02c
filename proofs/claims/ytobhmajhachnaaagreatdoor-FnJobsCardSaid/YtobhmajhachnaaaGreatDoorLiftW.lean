/-
 LIFT: regions that draw their order and call a writer, while loads beside the call wait for nothing. No condition.
-/
import Derived.Test.YtobhmajhachnaaaGreatDoorLiftM
set_option linter.unusedSimpArgs false
set_option linter.unusedVariables false
namespace Go.Lift
open Go.RowKit
def eE(ws:List FuncId)(i:Ins):Bool:=match i.op with
 | .call f _=>ws.contains f
 |_=>false
def flOk(ops:List Oper)(m:Nat)(F:List Nat):Bool:=F.all fun p=>decide (p<m)&&match ops[p]? with
 |some o=>o.guard.isNone&&(edg o).all (fun e=>decide (e<p))&&F.all fun q=>match bv ops q with
  |some t=> !(aV ops o).contains t||(edg o).contains q
  |none=>true
 |none=>false
def C8(ops:List Oper)(ms F:List Nat)(i:Nat):Bool:=match ops[i]? with
 |some o=>(edg o).all (fun e=>decide (e<i))&&F.all fun p=>(match bv ops p with
  |some t=>(!(aV ops o).contains t||(ms.getD i 0).testBit p)&& !(o.dst==some t)
  |none=>true)&&match o.dst,ops[p]? with
  |some t,some op=> !(aV ops op).contains t
  |_,_=>true
 |none=>false
def p8(P:Program)(ws:List FuncId)(ops:List Oper)(draw:Bool):Option C:=
 match bw P ops ops with
 |none=>none
 |some l=>
  let ms:=aN [] ops
  let k:=dD ms ops.length
  if draw&&(l.take k).any (eE ws) then
   let m:=(l.findIdx? (eE ws)).getD 0
   let F:=fset ops ms m
   if dB ops ms m&&decide (m<k)&&decide (k≤ops.length)&&flOk ops m F&&(List.range (ops.length-m)).all (fun d=>tg ms F (m+d))&&(List.range (ops.length-k)).all (fun d=>fullB ms (k+d))&&(List.range (k-m)).all (fun d=>C8 ops ms F (m+d))&&Region.seqB .any ops.toArray (ops.length-k) k (d9 ops.length k) then
    some (.drawW (l.take m) (F.filterMap fun p=>l[p]?) ((l.drop m).take (k-m)) (l.drop k)) else none
  else mf P ops draw
def bO(P:Program)(ws:List FuncId):Code→Option C
 | .skip=>some .skip
 | .region _ ops draw=>p8 P ws ops.toList draw
 | .seq a b=>match bO P ws a,bO P ws b with
  |some a,some b=>some (.seq a b)
  |_,_=>none
 | .cond c a b=>match cO c,bO P ws a,bO P ws b with
  |some c,some a,some b=>some (.cond c a b)
  |_,_,_=>none
 | .block id b=>(bO P ws b).map (.block id)
 | .loop b=>(bO P ws b).map .loop
 | .exit id=>some (.exit id)
 | .ret=>some .ret
 |_=>none
def EM(P:Program)(ws:List FuncId)(fn:Func):Option Fun:=
 match fn.body with
 |some c=>match bO P ws c,cRVs P fn.results.toList with
  |some b,some r=>if fn.nfree<8 then some ⟨fn.params.size+fn.nfree,fn.ntmps,b,r⟩ else none
  |_,_=>none
 |none=>none
section
variable {P : Program}
def Again(P:Program)(o:Oper)(e:List AV)(σ:Sto):Prop:=∀γ φ w (ρ:Operand→Value),Sim γ φ (at_ σ) w→(∀X Y,cO X=some Y→X∈o.op.operands.toList→Rel w γ φ (at_ σ) (O.ev e Y) (ρ X))→Fix ρ→
 Exec P (fun v w'=>∃γ' φ',Kst γ w γ' w'∧Live w γ φ (at_ σ) w' γ' φ' (at_ σ)∧Sim γ' φ' (at_ σ) w'∧∀d,o.dst=some d→Rel w' γ' φ' (at_ σ) (e.getD d .any) v) ((execOp ρ o).run P w)
theorem Eh{ops:List Oper}:∀{F:List Nat} {qs:List Ins},(∀q∈qs,∃o:Oper,cOp P o.op=some q.op)→∀{e:List AV} {σ:Sto} {K:List AV→Sto→Prop},reQ P qs e σ K→
  K e σ∧∀q∈qs,∀o:Oper,cOp P o.op=some q.op→q.dst=o.dst→Again P o e σ:=by
 intro F qs
 induction qs with
 |nil=>intro _ e σ K h;exact⟨h,fun q hq=>by cases hq⟩
 |cons q l ih=>
  intro hc e σ K h;simp only[reQ]at h;obtain⟨o0,ho0⟩:=hc q (by simp);obtain⟨r0,n0,⟨_,_,hK⟩,_⟩:=kG ho0 h;obtain⟨h1,h2⟩:=ih (fun q' hq'=>hc q' (by simp [hq'])) hK;refine⟨h1,fun q' hq' o ho hd=> ?_⟩;rcases List.mem_cons.1 hq' with rfl|hq'
  ·obtain⟨r,n,⟨hr,hn,_⟩,hup⟩:=kG ho h
   subst hn;intro γ φ w ρ hS hrel hf;refine Exec.mono (hup (at_ σ) (fun _ _ h=>h) γ φ (at_ σ) w ρ hS (fun _ _ h=>h) (fun j hj=>by simp at hj) hrel hf) fun v w' hq=> ?_
   obtain⟨γ',φ',hK',hL,hS',hR'⟩:=hq;rw[fo]at hL hS' hR';refine⟨γ',φ',hK',hL,hS',fun d hd'=> ?_⟩;rw[hd,hd']at hr;rw[← hr];exact hR'
  ·exact h2 q' hq' o ho hd
end
section
variable {P : Program} {ops : List Oper} {m k : Nat} {F : List Nat} {γe : Labels} {φ0 : Nat → Nat} {we : World} {σ0 : Sto}
structure WInv(ops:List Oper)(F:List Nat)(d:Nat)(e:List AV)(σ:Sto)(γe:Labels)(φ0:Nat→Nat)(we:World)(σ0:Sto)(listed:Array Bool)(a:Act)(w:World):Prop where
 size:listed.size=ops.length
 tail:∀t,d≤t→t<ops.length→listed.getD t false=false
 head:∀t,t<d→t∉F→listed.getD t false=true
 closed:Closed ops listed
 st:∃γ φ,Kst γe we γ w∧Sim γ φ (at_ σ) w∧a.tmps.size=e.length∧(∀t,t<e.length→(∀p∈F,bv ops p=some t→listed.getD p false=true)→Rel w γ φ (at_ σ) (e.getD t .any) (a.tmps.getD t undef))∧a.defers=[]∧
  ∀k Rt,at_ σ0 k=some Rt→Rt.g=false→Stay γe φ0 γ φ k∧∃R',at_ σ k=some R'∧R'.g=false
theorem WInv.ops_rel{d:Nat}{e:List AV}{σ:Sto}{listed:Array Bool}{a:Act}{w:World}{γ:Labels}{φ:Nat→Nat}(hrel:∀t,t<e.length→(∀p∈F,bv ops p=some t→listed.getD p false=true)→Rel w γ φ (at_ σ) (e.getD t .any) (a.tmps.getD t undef))
  {o:Oper} (hr:∀t,t∈aV ops o→∀p∈F,bv ops p=some t→listed.getD p false=true):
  (∀t,t∈aV ops o→Rel w γ φ (at_ σ) (e.getD t .any) (a.tmps.getD t undef))∧∀X Y,cO X=some Y→X∈o.op.operands.toList→Rel w γ φ (at_ σ) (O.ev e Y) (a.eval X):=by
 have h1:∀t,t∈aV ops o→Rel w γ φ (at_ σ) (e.getD t .any) (a.tmps.getD t undef):=by
  intro t ht;by_cases hl:t<e.length
  ·exact hrel t hl (hr t ht)
  ·rw[zq,List.getElem?_eq_none (by omega)]
   simp [Rel]
 refine⟨h1,fun X Y hc hX=> ?_⟩;cases X with
 |tmp t=>
  simp only[cO,zj]at hc;subst hc;refine h1 t ?_;unfold aV;exact List.mem_append.2 (.inl (List.mem_filterMap.2 ⟨.tmp t,hX,rfl⟩))
 |const v=>
  simp only[cO,zj]at hc;subst hc;exact tB v
 |global g=>simp [cO]at hc
 |func f=>simp [cO]at hc
theorem Cu{o:Oper}{t:Nat}{want:Bool}(hg:cG ops o.guard=some (some (t,want))):t∈aV ops o:=by
 unfold aV Cv;cases hgo:o.guard with
 |none=>rw[hgo]at hg;simp [cG]at hg
 |some jb=>
  obtain⟨j,b⟩:=jb;rw[hgo]at hg;simp only[cG]at hg;split at hg
  ·rename_i oj hoj
   split at hg
   ·rename_i t' ht'
    simp only[zj,Prod.mk.injEq]at hg;simp [hoj,ht',hg.1]
   ·cases hg
  ·cases hg
theorem xT{listed:Array Bool}(hc:Closed ops listed){i:Nat}{o:Oper}(ho:ops[i]? =some o)(hsz:i<listed.size)(hall:∀e∈edg o,listed.getD e false=true):Closed ops (listed.setIfInBounds i true):=by
 intro j oj hj hlj e he;rw[aj hsz]at hlj ⊢;simp only[Bool.or_eq_true,decide_eq_true_eq]at hlj ⊢;rcases hlj with rfl|hlj
 ·rw[ho]at hj
  obtain rfl:o=oj:=by simpa using hj
  exact .inr (hall e he)
 ·exact .inr (hc j oj hj hlj e he)
theorem WInv.float{d:Nat}{e:List AV}{σ:Sto}{listed:Array Bool}{a:Act}{w:World}{Q:Exit→Act→World→Prop}(hI:WInv ops F d e σ γe φ0 we σ0 listed a w)(hF:flOk ops m F=true)(honce:∀p∈F,∀q∈F,∀t,bv ops p=some t→bv ops q=some t→p=q)(hmd:m≤d){p:Nat}(hp:p∈F)
  (hag:∀o,ops[p]? =some o→Again P o e σ) (hpl:p<ops.length) (hr:p∈Region.ready .any ops.toArray listed):wpOp P ops.toArray Q p (WInv ops F d e σ γe φ0 we σ0 (listed.setIfInBounds p true)) a w:=by
 have h1:=List.all_eq_true.1 hF p hp;simp only[Bool.and_eq_true,decide_eq_true_eq]at h1;obtain⟨hpm,h1⟩:=h1;have ho:ops[p]? =some ops[p]:=zg hpl;rw[ho]at h1;simp only[Bool.and_eq_true,Option.isNone_iff_eq_none,List.all_eq_true,decide_eq_true_eq]at h1;obtain⟨⟨hg,hed⟩,hrd⟩:=h1;have hsz:p<listed.size:=by rw[hI.size];exact hpl
 have hall:∀x∈edg ops[p],listed.getD x false=true:=fun x hx=>by
  obtain⟨hun,oi,hoi,hall⟩:=mem_ready.1 hr;obtain rfl:ops[p]=oi:=by
   have:ops[p]? =some oi:=by simpa using hoi
   rw[ho]at this;simpa using this
  obtain⟨y,hy,hb,rfl⟩:=bP.1 hx;exact hall y hy hb
 unfold wpOp;rw[show ops.toArray[p]? =some ops[p]by simp];simp only[];rw[if_pos (by unfold Region.wanted;rw[hg])];obtain⟨γ,φ,hK,hS,htl,hrel,hd,hfix⟩:=hI.st;obtain⟨_,hops⟩:=WInv.ops_rel (d:=d) (F:=F) (ops:=ops) (a:=a) hrel (o:=ops[p]) (fun t ht q hq hdq=>by
  have:=hrd q hq;rw[hdq]at this;simp only[Bool.or_eq_true,Bool.not_eq_true']at this;rw[List.contains_eq_mem]at this;rcases this with h2|h2
  ·simp [ht]at h2
  ·exact hall q (by simpa using h2))
 refine .inl (Exec.upon (hag _ ho γ φ w a.eval hS hops ⟨fun _=>rfl,fun _=>rfl⟩) fun v w' hq=> ?_);obtain⟨γ',φ',hK',hL,hS',hR'⟩:=hq;refine⟨by simp [hI.size],fun t h1 h2=> ?_,fun t h1 h2=> ?_,xT hI.closed ho hsz hall,γ',φ',hK.trans hK',hS', ?_,fun t ht hw=> ?_, ?_,fun k Rt hk hgk=> ?_⟩
 ·rw[aj hsz,hI.tail t h1 h2];simp;omega
 ·rw[aj hsz,hI.head t h1 h2];simp
 ·cases ops[p].dst<;>simp [Act.put,htl]
 ·rw[lQ (by rw[htl];exact ht)]
  by_cases hdt:ops[p].dst=some t
  ·rw[if_pos hdt]
   exact hR' t hdt
  ·rw[if_neg hdt]
   refine Rel.mono hK' hL _ _ (hrel t ht fun q hq hdq=> ?_);have:=hw q hq hdq;rw[aj hsz]at this;simp only[Bool.or_eq_true,decide_eq_true_eq]at this;rcases this with rfl|h
   ·exact absurd (by simpa [bv,ho]using hdq) hdt
   ·exact h
 ·cases ops[p].dst<;>simpa [Act.put]using hd
 ·obtain⟨h1,R1,h2,h3⟩:=hfix k Rt hk hgk
  obtain⟨h4,R2,h5,_,h6,h7,_⟩:=hL k R1 h2;exact⟨h1.trans ⟨h4,h7⟩,R2,h5,goff h6 h3⟩
theorem CG{ks:Fg}{e:List AV}{t:Nat}(ht:t<e.length):(ei ks e).getD t .any=ks.ap (e.getD t .any):=by
 rw[uI,zq,List.getElem?_map,zq,zg ht]
 rfl
theorem xG{ks:Fg}{e:List AV}:(ei ks e).length=e.length:=by rw[uI];simp
theorem yS{e:List AV}{d:Option Nat}{r:AV}{t:Nat}(ht:t<e.length):(put e d r).getD t .any=if d=some t then r else e.getD t .any:=by
 unfold put;split
 ·rename_i x
  rw[zq,List.getElem?_set];by_cases h:x=t
  ·subst h;simp [ht]
  ·rw[if_neg h,if_neg (by simpa using h),zq]
 ·simp
theorem WInv.mid{d:Nat}{e:List AV}{σ:Sto}{listed:Array Bool}{a:Act}{w:World}{Q:Exit→Act→World→Prop}{N:List AV→Sto→Prop}(hI:WInv ops F d e σ γe φ0 we σ0 listed a w)(hfl:∀p∈F,p<m)(hmd:m≤d)(hok:C8 ops (aN [] ops) F d=true){o:Oper}(ho:ops[d]? =some o){i:I}(hop:cOp P o.op=some i){g:Option (Nat × Bool)}(hg:cG ops o.guard=some g)
  (hr:d∈Region.ready .any ops.toArray listed) (h:gd g e (tI P σ (O.ev e) i fun ks r σ'=>N (put (ei ks e) o.dst r) σ') (N (put e o.dst .und) σ)):
  wpOp P ops.toArray Q d (fun a w=>∃e σ,N e σ∧WInv ops F (d+1) e σ γe φ0 we σ0 (listed.setIfInBounds d true) a w) a w:=by
 unfold C8 at hok;rw[ho]at hok;simp only[Bool.and_eq_true,List.all_eq_true,decide_eq_true_eq]at hok;obtain⟨hlt,hok⟩:=hok;obtain⟨hun,oi,hoi,hall⟩:=mem_ready.1 hr;obtain rfl:o=oi:=by
  have:ops[d]? =some oi:=by simpa using hoi
  rw[ho]at this;simpa using this
 have hed:∀x∈edg o,listed.getD x false=true:=fun x hx=>by
  obtain⟨y,hy,hb,rfl⟩:=bP.1 hx;exact hall y hy hb
 have hdl:d<ops.length:=(List.getElem?_eq_some_iff.1 ho).1;have hsz:d<listed.size:=by rw[hI.size];exact hdl
 obtain⟨γ,φ,hK,hS,htl,hrel,hd,hfix⟩:=hI.st;obtain⟨hsl,hops⟩:=WInv.ops_rel (d:=d) (F:=F) (ops:=ops) (a:=a) hrel (o:=o) (fun t ht p hp hdp=>by
  have:=(hok p hp).1;rw[hdp]at this;simp only[Bool.and_eq_true,Bool.or_eq_true,Bool.not_eq_true']at this;rcases this.1 with h1|h1
  ·rw[List.contains_eq_mem]at h1
   simp [ht]at h1
  ·exact bt hI.closed ho hed h1)
 have hdF:d∉F:=fun h=>by have:=hfl d h;omega
 have hnF:∀p∈F,∀t,bv ops p=some t→o.dst≠some t:=fun p hp t hdp=>by
  have:=(hok p hp).1;rw[hdp]at this;simp only[Bool.and_eq_true,Bool.not_eq_true',beq_eq_false_iff_ne]at this;exact this.2
 have hnext:∀(e':List AV) (σ':Sto) (v:Value) (w':World) γ' φ',Kst γ w γ' w'→Sim γ' φ' (at_ σ') w'→e'.length=e.length→(∀t,t<e.length→(∀p∈F,bv ops p=some t→listed.getD p false=true)→Rel w' γ' φ' (at_ σ') (e'.getD t .any) ((a.put o.dst v).tmps.getD t undef))→
   (∀k R,at_ σ k=some R→R.g=false→Stay γ φ γ' φ' k∧∃R',at_ σ' k=some R'∧R'.g=false)→WInv ops F (d+1) e' σ' γe φ0 we σ0 (listed.setIfInBounds d true) (a.put o.dst v) w':=by
  intro e' σ' v w' γ' φ' hK' hS' hlen hrel' hfx;refine⟨by simp [hI.size],fun t h1 h2=> ?_,fun t h1 h2=> ?_,xT hI.closed ho hsz hed,γ',φ',hK.trans hK',hS', ?_,fun t ht hw=> ?_, ?_,fun k Rt hk hgk=> ?_⟩
  ·rw[aj hsz,hI.tail t (by omega) h2];simp;omega
  ·rw[aj hsz]
   by_cases h:t=d
   ·simp [h]
   ·rw[hI.head t (by omega) h2];simp
  ·rw[hlen, ← htl];cases o.dst<;>simp [Act.put]
  ·refine hrel' t (by rw[← hlen];exact ht) fun p hp hdp=> ?_
   have:=hw p hp hdp;rw[aj hsz]at this;simp only[Bool.or_eq_true,decide_eq_true_eq]at this;rcases this with rfl|h
   ·exact absurd hp hdF
   ·exact h
  ·cases o.dst<;>simpa [Act.put]using hd
  ·obtain⟨h1,R1,h2,h3⟩:=hfix k Rt hk hgk
   obtain⟨h4,R2,h5,h6⟩:=hfx k R1 h2 h3;exact⟨h1.trans h4,R2,h5,h6⟩
 unfold wpOp;rw[show ops.toArray[d]? =some o by simpa using ho];simp only[];rcases t7 (ops:=ops.toArray) (a:=a) (by simpa using hg) h (fun t want hgt=>hsl t (by subst hgt;exact Cu hg))with ⟨hw,h⟩|⟨hw,h⟩
 ·rw[if_pos hw]
  obtain⟨ks,r,σ',hN,hs⟩:=wy hop h;refine .inl (Exec.upon (hs γ φ w a.eval hS hops ⟨fun _=>rfl,fun _=>rfl⟩) fun v w' hq=> ?_);obtain⟨γ',φ',hp⟩:=hq;refine⟨_,_,hN,hnext _ _ _ _ γ' φ' hp.kst hp.sim (by rw[q7,xG]) (fun t ht hwr=> ?_) hp.fix⟩;rw[yS (by rw[xG];exact ht),lQ (by rw[htl];exact ht)];split
  ·exact hp.rel
  ·rw[CG ht]
   exact hp.pers _ _ (hrel t ht hwr)
 ·rw[if_neg (by simp [hw])]
  refine⟨_,_,h,hnext _ _ _ _ γ φ (Kst.refl _ _) hS q7 (fun t ht hwr=> ?_) (fun k R hk hg=>⟨Stay.refl,R,hk,hg⟩)⟩;rw[yS ht,lQ (by rw[htl];exact ht)];split
  ·simp [Rel]
  ·exact hrel t ht hwr
end
section
variable {P : Program} {ops : List Oper} {m k : Nat} {F : List Nat} {γe : Labels} {φ0 : Nat → Nat} {we : World} {σ0 : Sto} {Q : Exit → Act → World → Prop}
theorem Js{listed:Array Bool}{p:Nat}(hp:p<m)(h:listed.getD p false=false):0<unl m listed:=by
 unfold unl;exact List.length_pos_of_mem (a:=p) (List.mem_filter.2 ⟨List.mem_range.2 hp,by rw[h];rfl⟩)
theorem Bn{listed:Array Bool}(h:unl m listed=0):∀j,j<m→listed.getD j false=true:=fun j hj=>by
 cases hl:listed.getD j false with
 |true=>rfl
 |false=>have:=Js hj hl;omega
structure WOk(P:Program)(ops:List Oper)(m k:Nat)(F:List Nat):Prop where
 mk':m≤k
 kn:k≤ops.length
 fl:flOk ops m F=true
 once:∀p∈F,∀q∈F,∀t,bv ops p=some t→bv ops q=some t→p=q
 full:∀t,m≤t→t<ops.length→tg (aN [] ops) F t=true
 fullB:∀t,k≤t→t<ops.length→fullB (aN [] ops) t=true
 mid:∀t,m≤t→t<k→C8 ops (aN [] ops) F t=true
 seq:Region.seqB .any ops.toArray (ops.length-k) k (d9 ops.length k)=true
theorem WInv.sr{d:Nat}{e:List AV}{σ:Sto}{listed:Array Bool}{a:Act}{w:World}(hI:WInv ops F d e σ γe φ0 we σ0 listed a w)(hall:∀p∈F,listed.getD p false=true):SR γe φ0 we σ0 e σ a w:=by
 obtain⟨γ,φ,hK,hS,htl,hrel,hd,hfix⟩:=hI.st;refine⟨γ,φ,hK,hS,RelL.of_get (by simp [htl]) fun t x hx=> ?_,hd,hfix⟩;have ht:t<e.length:=(List.getElem?_eq_some_iff.1 hx).1;have hv:=hrel t ht fun p hp _=>hall p hp
 rw[zq,hx,Option.getD_some]at hv;exact⟨a.tmps.getD t undef,by simp [show t<a.tmps.size by omega],hv⟩
theorem zN(hW:WOk P ops m k F){l2:List Ins}(hl2:bw P ops (ops.drop k)=some l2){qs:List Ins}(hqs:∀q∈qs,∃o:Oper,cOp P o.op=some q.op)(hFq:∀p∈F,∀o,ops[p]? =some o→∃q∈qs,cOp P o.op=some q.op∧q.dst=o.dst)
  {K:List AV→Sto→Prop} (hQ:∀env σ a w,K env σ→SR γe φ0 we σ0 env σ a w→Q .normal a w):
  ∀(n:Nat) (d:Nat) (l1:List Ins) (e:List AV) (σ:Sto) (listed:Array Bool) (a:Act) (w:World),m≤d→d≤k→bw P ops ((ops.take k).drop d)=some l1→
   runW P qs l1 e σ (fun e σ=>runT P l2 e σ K)→(∀p∈F,∀o,ops[p]? =some o→Again P o e σ)→WInv ops F d e σ γe φ0 we σ0 listed a w→unl m listed+(k-d)=n→wpAny P .any ops.toArray Q (n+(ops.length-k)) listed a w:=by
 intro n
 induction n with
 |zero=>
  intro d l1 e σ listed a w hmd hdk hl1 h hag hI hn;obtain rfl:d=k:=by omega
  have hall:∀j,j<m→listed.getD j false=true:=Bn (by omega);have hl1':l1=[]:=by
   have:(ops.take d).drop d=[]:=by simp
   rw[this]at hl1;simpa [bw]using hl1.symm
  subst hl1';simp only[runW]at h;have hfm:∀p∈F,p<m:=fun p hp=>by
   have h1:=List.all_eq_true.1 hW.fl p hp;simp only[Bool.and_eq_true,decide_eq_true_eq]at h1;exact h1.1
  have hSR:=hI.sr fun p hp=>hall p (hfm p hp)
  have hcan:listed=d9 ops.length d:=by
   apply Array.ext
   ·simp [d9,hI.size]
   ·intro i h1 h2
    have e1:listed[i]=listed.getD i false:=by simp [h1]
    have e2:(d9 ops.length d)[i]=(d9 ops.length d).getD i false:=by simp [h2]
    rw[e1,e2,rK];have hin:i<ops.length:=by rw[← hI.size];exact h1
    by_cases hi:i<d
    ·by_cases hF:i∈F
     ·rw[hall i (hfm i hF)];simp [hin,hi]
     ·rw[hI.head i hi hF];simp [hin,hi]
    ·rw[hI.tail i (by omega) hin];simp [hi]
  have hl:(ops.drop d).length=ops.length-d:=by simp
  rw[Nat.zero_add, ← hl];refine wpAny_of_seq (ops.drop d) d listed a w (fun j=>by simp [List.getElem?_drop]) (by rw[hl,hcan];exact hW.seq) (dF (ops:=ops.toArray) (ops.drop d) l2 (by simpa using hl2) h hSR hQ)
 |succ n ih=>
  intro d l1 e σ listed a w hmd hdk hl1 h hag hI hn;have hfl:∀p∈F,p<m∧∀o,ops[p]? =some o→∀x∈edg o,x<p:=fun p hp=>by
   have h1:=List.all_eq_true.1 hW.fl p hp;simp only[Bool.and_eq_true,decide_eq_true_eq]at h1;refine⟨h1.1,fun o ho x hx=> ?_⟩;have h2:=h1.2;rw[ho]at h2;simp only[Bool.and_eq_true,List.all_eq_true,decide_eq_true_eq]at h2;exact h2.1.2 x hx
  have hkn:=hW.kn;have hmk:=hW.mk';rw[show n+1+(ops.length-k)=(n+(ops.length-k))+1 by omega];refine⟨fun h0=> ?_,fun i hi=> ?_⟩
  ·-- someone is ready
   exfalso
   by_cases hex:∃p,p∈F∧listed.getD p false=false
   ·obtain⟨p,⟨hp,hpf⟩,hmin⟩:=mY hex
    have hpl:p<ops.length:=by have:=(hfl p hp).1;omega
    have:p∈Region.ready .any ops.toArray listed:=mem_ready.2 ⟨getD_in (by rw[hI.size];exact hpl) hpf,ops[p],by simp,fun x hx hb=>by
     have h1:=(hfl p hp).2 _ (zg hpl) x.on (bP.2 ⟨x,hx,hb,rfl⟩);by_cases hF:x.on∈F
     ·cases hl:listed.getD x.on false with
      |true=>rfl
      |false=>have:=hmin x.on ⟨hF,hl⟩;omega
     ·have:=(hfl p hp).1
      exact hI.head x.on (by omega) hF⟩
    rw[h0]at this;cases this
   ·have hallF:∀p∈F,listed.getD p false=true:=fun p hp=>by
     cases hl:listed.getD p false with
     |true=>rfl
     |false=>exact absurd ⟨p,hp,hl⟩ hex
    have hdk':d<k:=by
     by_cases h1:d<k
     ·exact h1
     ·exfalso
      have h2:0<unl m listed:=by omega
      have h3:∀j,j<m→listed.getD j false=true:=fun j hj=>by
       by_cases hF:j∈F
       ·exact hallF j hF
       ·exact hI.head j (by omega) hF
      have:unl m listed=0:=by
       unfold unl;rw[List.length_eq_zero_iff,List.filter_eq_nil_iff];intro j hj;rw[h3 j (by simpa using hj)]
       simp
      omega
    have hdl:d<ops.length:=by omega
    have hmid:=hW.mid d hmd hdk';unfold C8 at hmid;rw[zg hdl]at hmid;simp only[Bool.and_eq_true,List.all_eq_true,decide_eq_true_eq]at hmid;have:d∈Region.ready .any ops.toArray listed:=mem_ready.2 ⟨getD_in (by rw[hI.size];exact hdl) (hI.tail d (Nat.le_refl _) hdl),ops[d],by simp,fun x hx hb=>by
     have h1:=hmid.1 x.on (bP.2 ⟨x,hx,hb,rfl⟩);by_cases hF:x.on∈F
     ·exact hallF _ hF
     ·exact hI.head x.on h1 hF⟩
    rw[h0]at this;cases this
  ·obtain⟨hun,oi,hoi,hall⟩:=mem_ready.1 hi
   have hoi':ops[i]? =some oi:=by simpa using hoi
   have hil:i<ops.length:=(List.getElem?_eq_some_iff.1 hoi').1;have hed:∀x∈edg oi,listed.getD x false=true:=fun x hx=>by
    obtain⟨y,hy,hb,rfl⟩:=bP.1 hx;exact hall y hy hb
   have hunf:=getD_both hun;by_cases hiF:i∈F
   ·-- a float
    refine wpOp_mono (fun a' w' hI'=>ih d l1 e σ _ a' w' hmd hdk hl1 h hag hI' ?_) (WInv.float (Q:=Q) hI hW.fl hW.once hmd hiF (hag i hiF) hil hi);have:=mN (hfl i hiF).1 (by rw[hI.size];exact hil) hunf;omega
   ·-- the next of the middle
    have hid:d≤i:=by
     by_cases h1:d≤i
     ·exact h1
     ·have:=hI.head i (by omega) hiF
      rw[hunf]at this;cases this
    have hbits:∀j,j<i→j∈F∨listed.getD j false=true:=fun j hj=>by
     have hb:=List.all_eq_true.1 (hW.full i (by omega) hil) j (by simp;omega);simp only[Bool.or_eq_true]at hb;rcases hb with hb|hb
     ·exact .inl (by simpa using hb)
     ·exact .inr (bt hI.closed hoi' hed hb)
    have hide:i=d:=by
     by_cases h1:i=d
     ·exact h1
     ·exfalso
      rcases hbits d (by omega)with h2|h2
      ·have:=(hfl d h2).1;omega
      ·rw[hI.tail d (Nat.le_refl _) (by omega)]at h2;cases h2
    subst hide;have hik:i<k:=by
     by_cases h1:i<k
     ·exact h1
     ·exfalso
      have hB:=hW.fullB i (by omega) hil;have h3:∀j,j<m→listed.getD j false=true:=fun j hj=>by
       have hb:=List.all_eq_true.1 hB j (by simp;omega);exact bt hI.closed hoi' hed hb
      have:unl m listed=0:=by
       unfold unl;rw[List.length_eq_zero_iff,List.filter_eq_nil_iff];intro j hj;rw[h3 j (by simpa using hj)]
       simp
      omega
    have hdr:(ops.take k).drop i=oi :: (ops.take k).drop (i+1):=by
     have h1:i<(ops.take k).length:=by simp;omega
     rw[List.drop_eq_getElem_cons h1]
     congr 1
     rw[List.getElem_take];have:=List.getElem?_eq_some_iff.1 hoi';exact this.2
    rw[hdr]at hl1;simp only[bw]at hl1;split at hl1
    ·rename_i ins mm hins hmm
     simp only[zj]at hl1;subst hl1;unfold cIns at hins;split at hins
     ·rename_i op g hop hg
      simp only[zj]at hins;subst hins;simp only[runW]at h;refine wpOp_mono (fun a' w' hI'=> ?_) (WInv.mid (Q:=Q) (N:=fun e' σ'=>reQ P qs e' σ' fun e σ=>runW P qs mm e σ fun e σ=>runT P l2 e σ K) hI (fun p hp=>(hfl p hp).1) hmd (hW.mid i hmd hik) hoi' hop hg hi h);obtain⟨e',σ',hre,hI'⟩:=hI';obtain⟨h1,h2⟩:=Eh (F:=F) (ops:=ops) hqs hre;refine ih (i+1) mm e' σ' _ a' w' (by omega) (by omega) hmm h1 (fun p hp o ho=> ?_) hI' ?_
      ·obtain⟨q,hq,h3,h4⟩:=hFq p hp o ho
       exact h2 q hq o h3 h4
      ·have h5:unl m (listed.setIfInBounds i true)=unl m listed:=by
        unfold unl
        congr 1
        apply List.filter_congr;intro j hj;have:j<m:=by simpa using hj
        rw[aj (by rw[hI.size];exact hil),decide_eq_false (show ¬ j=i by omega)]
        simp
       omega
     ·cases hins
    ·cases hl1
theorem ML(hpre:dB ops (aN [] ops) m=true)(hm:m≤ops.length)(hW:WOk P ops m k F){l1 l2:List Ins}(hl1:bw P ops ((ops.take k).drop m)=some l1)(hl2:bw P ops (ops.drop k)=some l2){qs:List Ins}(hqs:∀q∈qs,∃o:Oper,cOp P o.op=some q.op)(hFq:∀p∈F,∀o,ops[p]? =some o→∃q∈qs,cOp P o.op=some q.op∧q.dst=o.dst)
  {K:List AV→Sto→Prop} (hQ:∀env σ a w,K env σ→SR γe φ0 we σ0 env σ a w→Q .normal a w) {R:Nat→AV} {N:Nat→Sto} {W:Nat→Bool} {env:List AV} {σ:Sto}
  (hst:∀(i:Nat) (o:Oper),i<m→ops[i]? =some o→Step1 P ops o (aU ops R env i) (stAt N σ i) (R i) (N i) (W i)) (hlen:(stAt N σ m).length=σ.length)
  (h:reQ P qs (aU ops R env m) (stAt N σ m) fun e σ=>runW P qs l1 e σ fun e σ=>runT P l2 e σ K):
  ∀(f:Nat) (listed:Array Bool) (a:Act) (w:World),HInv ops m ops.length R N env σ γe φ0 we σ0 listed a w→unl m listed=f→wpAny P .any ops.toArray Q (f+(k-m)+(ops.length-k)) listed a w:=by
 have hmk:=hW.mk';have hkn:=hW.kn;have hsx:∀listed,stX m N σ listed=at_ (stAt N σ m):=fun listed=>by
  funext q
  unfold stX;by_cases hq:q<σ.length
  ·rw[if_pos (.inl hq)]
  ·rw[if_neg]
   ·simp [at_,List.getElem?_eq_none (show (stAt N σ m).length≤q by omega)]
   ·rintro (h1|h1)
    ·exact hq h1
    ·obtain⟨j,h2,_,h3,h4⟩:=nm.1 h1
     have:=E5 (N:=N) (σ:=σ) (show j+1≤m by omega);omega
 obtain⟨hrun,hag⟩:=Eh (F:=F) (ops:=ops) hqs h;intro f
 induction f with
 |zero=>
  intro listed a w hI hf;exact zN hW hl2 hqs hFq hQ _ m l1 _ _ listed a w (Nat.le_refl _) hmk hl1 hrun (fun p hp o ho=>by
   obtain⟨q,hq,h3,h4⟩:=hFq p hp o ho;exact hag q hq o h3 h4) (by
   have hall:=Bn hf;obtain⟨γ,φ,hK,hS,htl,hrel,hd,hfix⟩:=hI.st;rw[hsx]at hS hrel hfix;refine⟨hI.size,hI.tail,fun t h1 _=>hall t h1,hI.closed,γ,φ,hK,hS,by rw[dn,htl],fun t ht _=> ?_,hd,hfix⟩;rw[dn]at ht;have hv:=hrel t ht;rw[n8 (cL hpre) m (Nat.le_refl _) t ht];unfold valX at hv;cases hw:bg ops m t with
   |none=>rw[hw]at hv;exact hv
   |some j=>
    rw[hw]at hv;have hws:=aS hw;simp only[hall j hws.1,if_true]at hv;simp only[hws.1,if_true];exact hv) (by omega)
 |succ f ih=>
  intro listed a w hI hf;by_cases hN:∀j,j<m→j∉F→listed.getD j false=true
  ·exact zN hW hl2 hqs hFq hQ _ m l1 _ _ listed a w (Nat.le_refl _) hmk hl1 hrun (fun p hp o ho=>by
    obtain⟨q,hq,h3,h4⟩:=hFq p hp o ho;exact hag q hq o h3 h4) (by
    obtain⟨γ,φ,hK,hS,htl,hrel,hd,hfix⟩:=hI.st;rw[hsx]at hS hrel hfix;refine⟨hI.size,hI.tail,hN,hI.closed,γ,φ,hK,hS,by rw[dn,htl],fun t ht hF=> ?_,hd,hfix⟩;rw[dn]at ht;have hv:=hrel t ht;rw[n8 (cL hpre) m (Nat.le_refl _) t ht];unfold valX at hv;cases hw:bg ops m t with
    |none=>rw[hw]at hv;exact hv
    |some j=>
     rw[hw]at hv;have hws:=aS hw;have hlj:listed.getD j false=true:=by
      by_cases hjF:j∈F
      ·exact hF j hjF hws.2
      ·exact hN j hws.1 hjF
     simp only[hlj,if_true]at hv;simp only[hws.1,if_true];exact hv) (by omega)
  ·have hex:∃j,j<m∧j∉F∧listed.getD j false=false:=by
    false_or_by_contra
    rename_i hc;apply hN;intro j hj hjF;cases hl:listed.getD j false with
    |true=>rfl
    |false=>exact absurd ⟨j,hj,hjF,hl⟩ hc
   rw[show f+1+(k-m)+(ops.length-k)=(f+(k-m)+(ops.length-k))+1 by omega];have hready:∃i,i∈Region.ready .any ops.toArray listed:=by
    obtain⟨j,hj,hx,hjf⟩:=hex;clear hx
    induction j using Nat.strongRecOn with
    |_ j ihj=>
     obtain⟨o,ho,hedge,_⟩:=cE hpre hj;by_cases hall:∀e∈edg o,listed.getD e false=true
     ·refine⟨j,mem_ready.2 ⟨getD_in (by rw[hI.size];omega) hjf,o,by simpa using ho,fun e he hb=>hall _ (bP.2 ⟨e,he,hb,rfl⟩)⟩⟩
     ·have⟨e,he,hne⟩:∃e,e∈edg o∧listed.getD e false=false:=by
       false_or_by_contra
       rename_i hc;apply hall;intro e he;cases hb:listed.getD e false with
       |true=>rfl
       |false=>exact absurd ⟨e,he,hb⟩ hc
      exact ihj e (hedge e he) (by have:=hedge e he;omega) hne
   have hhead:∀i,i∈Region.ready .any ops.toArray listed→i<m:=by
    intro i hi;obtain⟨hun,oi,hoi,hall⟩:=mem_ready.1 hi;rcases Nat.lt_or_ge i m with h1|h1
    ·exact h1
    ·exfalso
     have hoi':ops[i]? =some oi:=by simpa using hoi
     have hlt:i<ops.length:=(List.getElem?_eq_some_iff.1 hoi').1;have hed:∀e∈edg oi,listed.getD e false=true:=fun e he=>by
      obtain⟨x,hx,hb,rfl⟩:=bP.1 he;exact hall x hx hb
     obtain⟨j,hj,hjF,hjf⟩:=hex;have hb:=List.all_eq_true.1 (hW.full i h1 hlt) j (by simp;omega);simp only[Bool.or_eq_true]at hb;rcases hb with hb|hb
     ·exact hjF (by simpa using hb)
     ·rw[bt hI.closed hoi' hed hb]at hjf;cases hjf
   refine⟨fun h0=> ?_,fun i hi=> ?_⟩
   ·obtain⟨i,hi⟩:=hready
    rw[h0]at hi;cases hi
   ·have him:=hhead i hi
    obtain⟨hun,oi,hoi,_⟩:=mem_ready.1 hi;have hoi':ops[i]? =some oi:=by simpa using hoi
    have hlt:i<ops.length:=(List.getElem?_eq_some_iff.1 hoi').1;refine wpOp_mono (fun a' w' hI'=>ih _ a' w' hI' ?_) (qh (Q:=Q) hpre hst hI him hi);have:=mN him (by rw[hI.size];exact hlt) (getD_both hun);omega
end
section
variable {P : Program} {γe : Labels} {φ0 : Nat → Nat} {we : World} {σ0 : Sto}
theorem y3{all:List Oper}:∀{l:List Oper} {l':List Ins},bw P all l=some l'→∀{i:Nat} {q:Ins},l'[i]? =some q→∃o,l[i]? =some o∧cOp P o.op=some q.op∧q.dst=o.dst
 | [],l',h,i,q,hq=>by
  simp only[bw,zj]at h;subst h;simp at hq
 |o :: l,l',h,i,q,hq=>by
  simp only[bw]at h;split at h
  ·rename_i ins m hi hm
   simp only[zj]at h;subst h;cases i with
   |zero=>
    simp at hq;subst hq;unfold cIns at hi;split at hi
    ·rename_i x g hop hg
     simp only[zj]at hi;subst hi;exact⟨o,by simp,hop,rfl⟩
    ·cases hi
   |succ i=>
    obtain⟨o',h1,h2⟩:=y3 hm (i:=i) (by simpa using hq);exact⟨o',by simpa using h1,h2⟩
  ·cases h
theorem DL{α:Type}(l:List α)(m k:Nat):(l.drop m).take (k-m)=(l.take k).drop m:=by
 rw[List.drop_take]
theorem Fe{id:Nat}{ops:Array Oper}{m k:Nat}{F:List Nat}(hm:P.follows .mixedOrders=true){l:List Ins}(hl:bw P ops.toList ops.toList=some l)(hmle:m≤ops.toList.length)(hpre:dB ops.toList (aN [] ops.toList) m=true)(hW:WOk P ops.toList m k F)
  {K:Ex→List AV→Sto→Prop} {env:List AV} {σ:Sto} {a:Act} {w:World} {Q:Exit→Act→World→Prop}
  (h:runG P (l.take m) env σ fun e' σ'=>σ'.length=σ.length∧reQ P (F.filterMap fun p=>l[p]?) e' σ' fun e σ=>runW P (F.filterMap fun p=>l[p]?) ((l.drop m).take (k-m)) e σ fun e σ=>runT P (l.drop k) e σ (K .normal)) (hS:SR γe φ0 we σ0 env σ a w) (hQ:∀env σ a w,K .normal env σ→SR γe φ0 we σ0 env σ a w→Q .normal a w):(Code.region id ops true).wp P Q a w:=by
 have hlen:=uT hl;obtain⟨h1,h2⟩:=cN ops.toList l m hl;obtain⟨R,N,W,⟨hlenσ,hK⟩,hst⟩:=je (ops.toList.take m) (l.take m) h1 h;have htl:(ops.toList.take m).length=m:=by simp at hmle ⊢;omega
 have henv:∀i,i≤m→aU (ops.toList.take m) R env i=aU ops.toList R env i:=by
  intro i
  induction i with
  |zero=>intro _;rfl
  |succ i ih=>
   intro hi;rw[aU,aU,ih (by omega)]
   congr 1
   simp only[bv,List.getElem?_take,show i<m by omega,if_true]
 rw[htl,henv m (Nat.le_refl _)]at hK;rw[htl]at hlenσ;have hst':∀(i:Nat) (o:Oper),i<m→ops.toList[i]? =some o→Step1 P ops.toList o (aU ops.toList R env i) (stAt N σ i) (R i) (N i) (W i):=by
  intro i o hi ho;have:=hst i o (by rw[List.getElem?_take,if_pos hi];exact ho)
  rwa [henv i (by omega)]at this
 refine wp_region_any hm ?_;obtain⟨γ,φ,hKst,hSim,hE,hd,hfix⟩:=hS;have hnone:∀j,(Array.replicate ops.size false).getD j false=false:=fun j=>getD_replicate_false _ _
 have hsx:stX m N σ (Array.replicate ops.size false)=at_ σ:=oh (fun j _=>hnone j) (fun k hk=>by
  obtain⟨l',hl'⟩:=mQ (N:=N) (σ:=σ) 0 m;rw[Nat.zero_add]at hl';rw[hl'];simp only[at_,stAt];rw[List.getElem?_append_left hk])
 have hI:HInv ops.toList m ops.toList.length R N env σ γe φ0 we σ0 (Array.replicate ops.size false) a w.drew:=by
  refine⟨by simp,fun t _ _=>hnone t,fun j o _ hlj=>(by rw[hnone j]at hlj;cases hlj),γ,φ,hKst.trans (Kst.drew _ _), ?_, ?_,fun t ht=> ?_,hd, ?_⟩
  ·rw[hsx];exact hSim.drew
  ·have:=hE.len;simpa using this
  ·rw[hsx]
   unfold valX;cases hw:bg ops.toList m t with
   |none=>exact Rel.mono (Kst.drew γ w) (Live.refl _ _ _ _) _ _ (dY hE t)
   |some j=>simp only[hnone j,Bool.false_eq_true,if_false,Rel]
  ·rw[hsx];exact hfix
 have hfm:∀p∈F,p<m:=fun p hp=>by
  have h1:=List.all_eq_true.1 hW.fl p hp;simp only[Bool.and_eq_true,decide_eq_true_eq]at h1;exact h1.1
 have hl1:bw P ops.toList ((ops.toList.take k).drop m)=some ((l.drop m).take (k-m)):=by
  rw[← DL]
  exact(cN (ops.toList.drop m) (l.drop m) (k-m) h2).1
 have hany:=ML (P:=P) (Q:=Q) hpre hmle hW hl1 (cN ops.toList l k hl).2 (qs:=F.filterMap fun p=>l[p]?) (fun q hq=>by
   simp only[List.mem_filterMap]at hq;obtain⟨p,_,hq⟩:=hq;obtain⟨o,_,ho,_⟩:=y3 hl hq;exact⟨o,ho⟩) (fun p hp o ho=>by
   have hpl:p<l.length:=by rw[hlen];exact(List.getElem?_eq_some_iff.1 ho).1
   obtain⟨o',h1,h2,h3⟩:=y3 hl (zg hpl);rw[ho]at h1;obtain rfl:o=o':=by simpa using h1
   exact⟨l[p],List.mem_filterMap.2 ⟨p,hp,zg hpl⟩,h2,h3⟩) hQ hst' hlenσ hK
  (unl m (Array.replicate ops.size false)) _ a w.drew hI rfl
 have hul:unl m (Array.replicate ops.size false)=m:=by
  unfold unl;rw[List.filter_eq_self.2 (fun j _=>by rw[hnone j];rfl)]
  simp
 have hmk:=hW.mk';have hkn:=hW.kn;rw[hul,show m+(k-m)+(ops.toList.length-k)=ops.size by simp at hkn ⊢;omega]at hany;exact hany
theorem ge{ws:List FuncId}{id:Nat}{ops:Array Oper}{draw:Bool}{c:C}(hm:P.follows .mixedOrders=true)(hc:p8 P ws ops.toList draw=some c){K:Ex→List AV→Sto→Prop}{env:List AV}{σ:Sto}{a:Act}{w:World}{Q:Exit→Act→World→Prop}
  {m0:Nat} (h:wpC P m0 c K env σ) (hS:SR γe φ0 we σ0 env σ a w) (hQ:∀env σ a w,K .normal env σ→SR γe φ0 we σ0 env σ a w→Q .normal a w) (hP:∀c a dst v w,Q (.panic c) (Act.put a dst v) w→Q (.panic c) a w):(Code.region id ops draw).wp P Q a w:=by
 unfold p8 at hc;split at hc
 ·cases hc
 ·rename_i l hl
  simp only at hc;split at hc
  ·rename_i hd
   simp only[Bool.and_eq_true]at hd;obtain⟨rfl,_⟩:=hd;split at hc
   ·rename_i hcond
    simp only[zj]at hc;subst hc;simp only[wpC]at h;simp only[Bool.and_eq_true,decide_eq_true_eq]at hcond;obtain⟨⟨⟨⟨⟨⟨⟨hpre,hmk⟩,hkn⟩,hfl⟩,hful⟩,hfB⟩,hmid⟩,hseq⟩:=hcond;simp only[List.all_eq_true,List.mem_range]at hful hfB hmid;refine Fe hm hl (by omega) hpre ⟨by omega,hkn,hfl,fun p hp q hq t h1 h2=> ?_,fun t h1 h2=> ?_,fun t h1 h2=> ?_,fun t h1 h2=> ?_,hseq⟩ h hS hQ
    ·have hfm:∀p∈fset ops.toList (aN [] ops.toList) ((l.findIdx? (eE ws)).getD 0),p<((l.findIdx? (eE ws)).getD 0):=fun p hp=>by
      have h1:=List.all_eq_true.1 hfl p hp;simp only[Bool.and_eq_true,decide_eq_true_eq]at h1;exact h1.1
     exact cL hpre p q t (hfm p hp) (hfm q hq) h1 h2
    ·have:=hful (t-((l.findIdx? (eE ws)).getD 0)) (by omega)
     rwa [show ((l.findIdx? (eE ws)).getD 0)+(t-((l.findIdx? (eE ws)).getD 0))=t by omega]at this
    ·have:=hfB (t-(dD (aN [] ops.toList) ops.toList.length)) (by omega)
     rwa [show (dD (aN [] ops.toList) ops.toList.length)+(t-(dD (aN [] ops.toList) ops.toList.length))=t by omega]at this
    ·have:=hmid (t-((l.findIdx? (eE ws)).getD 0)) (by omega)
     rwa [show ((l.findIdx? (eE ws)).getD 0)+(t-((l.findIdx? (eE ws)).getD 0))=t by omega]at this
   ·cases hc
  ·exact gf hm hc h hS hQ hP
theorem Bd{ws:List FuncId}{ops:List Oper}{draw:Bool}{c:C}(h:p8 P ws ops draw=some c):(∃l,c=.reg l)∨(∃p t,c=.draw p t)∨(∃p t,c=.drawK p t)∨∃p q m t,c=.drawW p q m t:=by
 unfold p8 at h;split at h
 ·cases h
 ·simp only at h
  split at h
  ·split at h
   ·simp only[zj]at h
    exact .inr (.inr (.inr ⟨_,_,_,_,h.symm⟩))
   ·cases h
  ·rcases tC h with h|h|h
   ·exact .inl h
   ·exact .inr (.inl h)
   ·exact .inr (.inr (.inl h))
theorem cC{ws:List FuncId}{cd:Code}{c:C}(h:bO P ws cd=some c):match c with
  | .skip=>cd=.skip
  | .reg _=>∃id ops draw,cd=.region id ops draw
  | .draw _ _=>∃id ops draw,cd=.region id ops draw
  | .drawK _ _=>∃id ops draw,cd=.region id ops draw
  | .drawW _ _ _ _=>∃id ops draw,cd=.region id ops draw
  | .seq a b=>∃x y,cd=.seq x y∧bO P ws x=some a∧bO P ws y=some b
  | .cond c a b=>∃o x y,cd=.cond o x y∧cO o=some c∧bO P ws x=some a∧bO P ws y=some b
  | .block id b=>∃x,cd=.block id x∧bO P ws x=some b
  | .loop b=>∃x,cd=.loop x∧bO P ws x=some b
  | .exit id=>cd=.exit id
  | .ret=>cd=.ret
  | .gh _=>False:=by
 cases cd with
 |skip=>simp only[bO,zj]at h;subst h;trivial
 |region id ops draw=>
  simp only[bO]at h;rcases Bd h with ⟨l,rfl⟩|⟨p,t,rfl⟩|⟨p,t,rfl⟩|⟨p,q,m,t,rfl⟩<;>exact⟨_,_,_,rfl⟩
 |seq x y=>
  simp only[bO]at h;split at h
  ·rename_i c1 c2 h1 h2
   simp only[zj]at h;subst h;exact⟨x,y,rfl,h1,h2⟩
  ·cases h
 |cond o x y=>
  simp only[bO]at h;split at h
  ·rename_i o' c1 c2 ho h1 h2
   simp only[zj]at h;subst h;exact⟨o,x,y,rfl,ho,h1,h2⟩
  ·cases h
 |block id b=>
  simp only[bO,zm]at h;obtain⟨c1,h1,rfl⟩:=h;exact⟨b,rfl,h1⟩
 |loop b=>
  simp only[bO,zm]at h;obtain⟨c1,h1,rfl⟩:=h;exact⟨b,rfl,h1⟩
 |exit id=>simp only[bO,zj]at h;subst h;trivial
 |ret=>simp only[bO,zj]at h;subst h;trivial
 |_=>simp [bO]at h
theorem D3{ws:List FuncId}(hm:P.follows .mixedOrders=true):∀(c:C) (cd:Code),bO P ws cd=some c.erase→∀{K:Ex→List AV→Sto→Prop} {env:List AV} {σ:Sto} {a:Act} {w:World} {Q:Exit→Act→World→Prop},wpC P σ0.length c K env σ→SR γe φ0 we σ0 env σ a w→
  (∀x env σ a w,K x env σ→SR γe φ0 we σ0 env σ a w→Q x.to a w)→(∀c a dst v w,Q (.panic c) (Act.put a dst v) w→Q (.panic c) a w)→cd.wp P Q a w:=by
 intro c
 induction c with
 |skip=>
  intro cd hc K env σ a w Q h hS hQ hP;have hi:cd=.skip:=cC hc;subst hi;exact wp_skip (hQ .normal _ _ _ _ h hS)
 |reg l=>
  intro cd hc K env σ a w Q h hS hQ hP;obtain⟨id,ops,draw,rfl⟩:=cC hc;simp only[bO]at hc;exact ge hm hc h hS (fun env σ a w hk hs=>hQ .normal env σ a w hk hs) hP
 |draw p t=>
  intro cd hc K env σ a w Q h hS hQ hP;obtain⟨id,ops,draw,rfl⟩:=cC hc;simp only[bO]at hc;exact ge hm hc h hS (fun env σ a w hk hs=>hQ .normal env σ a w hk hs) hP
 |drawK p t=>
  intro cd hc K env σ a w Q h hS hQ hP;obtain⟨id,ops,draw,rfl⟩:=cC hc;simp only[bO]at hc;exact ge hm hc h hS (fun env σ a w hk hs=>hQ .normal env σ a w hk hs) hP
 |drawW p q m t=>
  intro cd hc K env σ a w Q h hS hQ hP;obtain⟨id,ops,draw,rfl⟩:=cC hc;simp only[bO]at hc;exact ge hm hc h hS (fun env σ a w hk hs=>hQ .normal env σ a w hk hs) hP
 |seq x y ihx ihy=>
  intro cd hc K env σ a w Q h hS hQ hP;obtain⟨c1,c2,rfl,h1,h2⟩:=cC hc;simp only[wpC]at h;refine wp_seq (ihx c1 h1 h hS (fun x env σ a w hk hs=> ?_) hP);cases x with
  |normal=>exact ihy c2 h2 hk hs hQ hP
  |exit id=>exact hQ (.exit id) _ _ _ _ hk hs
  |ret=>exact hQ .ret _ _ _ _ hk hs
 |cond o x y ihx ihy=>
  intro cd hc K env σ a w Q h hS hQ hP;obtain⟨o',c1,c2,rfl,ho,h1,h2⟩:=cC hc;simp only[wpC]at h;split at h
  ·rename_i t ht
   have hS0:=hS;obtain⟨γ,φ,hK,hSim,hE,hd,hfix⟩:=hS0;have hr:=B3 hE ho;rw[ht]at hr;have hv:=dI hr;refine wp_cond hv ?_;cases t with
   |true=>simp only[if_true]at h ⊢;exact ihx c1 h1 h hS hQ hP
   |false=>simp only[Bool.false_eq_true,if_false]at h ⊢;exact ihy c2 h2 h hS hQ hP
  ·exact h.elim
 |block id b ih=>
  intro cd hc K env σ a w Q h hS hQ hP;obtain⟨c1,rfl,h1⟩:=cC hc;simp only[wpC]at h;refine wp_block (ih c1 h1 h hS (fun x env σ a w hk hs=> ?_) hP);cases x with
  |normal=>exact hQ .normal _ _ _ _ hk hs
  |exit i=>
   simp only[Ex.to,Exit.inBlock];simp only at hk;split
   ·rename_i e
    rw[if_pos e]at hk;exact hQ .normal _ _ _ _ hk hs
   ·rename_i e
    rw[if_neg e]at hk;exact hQ (.exit i) _ _ _ _ hk hs
  |ret=>exact hQ .ret _ _ _ _ hk hs
 |loop b ih=>
  intro cd hc K env σ a w Q h hS hQ hP;obtain⟨c1,rfl,h1⟩:=cC hc;simp only[wpC]at h;obtain⟨J,⟨m,e',σ',hw,hJ⟩,hround⟩:=h;have key:∀a w,∃μ:Nat,(∃n e σ,J n e σ∧SR γe φ0 we σ0 e σ a w)→(∃e σ,J μ e σ∧SR γe φ0 we σ0 e σ a w)∧∀k,(∃e σ,J k e σ∧SR γe φ0 we σ0 e σ a w)→μ≤k:=by
   intro a w;by_cases hx:∃n e σ,J n e σ∧SR γe φ0 we σ0 e σ a w
   ·obtain⟨μ,h1,h2⟩:=mY (p:=fun n=>∃e σ,J n e σ∧SR γe φ0 we σ0 e σ a w) hx
    exact⟨μ,fun _=>⟨h1,h2⟩⟩
   ·exact⟨0,fun h=>absurd h hx⟩
  refine wp_loop (fun a w=>∃n e σ,J n e σ∧SR γe φ0 we σ0 e σ a w) (fun a w=>Classical.choose (key a w)) ⟨m,e',σ',hJ,cy hw hS⟩ fun a w hI=> ?_
  obtain⟨⟨e,σ,hJ,hs⟩,hmin⟩:=Classical.choose_spec (key a w) hI;refine ih c1 h1 (hround _ e σ hJ) hs (fun x env σ a' w' hk hs'=> ?_) hP;cases x with
  |normal=>
   obtain⟨m',e2,σ2,hlt,hw2,hJ2⟩:=hk;have hI':∃n e σ,J n e σ∧SR γe φ0 we σ0 e σ a' w':=⟨m',e2,σ2,hJ2,cy hw2 hs'⟩;refine⟨hI', ?_⟩;have:=(Classical.choose_spec (key a' w') hI').2 m' ⟨e2,σ2,hJ2,cy hw2 hs'⟩;exact Nat.lt_of_le_of_lt this hlt
  |exit id=>exact hQ (.exit id) _ _ _ _ hk hs'
  |ret=>exact hQ .ret _ _ _ _ hk hs'
 |exit id=>
  intro cd hc K env σ a w Q h hS hQ hP;have hi:cd=.exit id:=cC hc;subst hi;exact wp_exit (hQ (.exit id) _ _ _ _ h hS)
 |ret=>
  intro cd hc K env σ a w Q h hS hQ hP;have hi:cd=.ret:=cC hc;subst hi;exact wp_ret (hQ .ret _ _ _ _ h hS)
 |gh x ih=>
  intro cd hc K env σ a w Q h hS hQ hP;simp only[wpC]at h;refine ih cd hc h hS (fun x env σ a w hk hs=> ?_) hP;cases x with
  |normal=>
   obtain⟨e',σ',hw,hk⟩:=hk;exact hQ .normal _ _ _ _ hk (cy hw hs)
  |exit id=>exact hQ (.exit id) _ _ _ _ hk hs
  |ret=>exact hQ .ret _ _ _ _ hk hs
end
theorem spec_ofW(ws:List FuncId){P:Program}{f:FuncId}{fn:Func}{F:Fun}{args:List AV}{σ0:Sto}{res:AV}{σ1:Sto}(hm:P.follows .mixedOrders=true)(hf:P.funcs[f]? =some fn)(hF:EM P ws fn=some F.erase)(h:FnOk P F args σ0 res σ1):Does P f args σ0 res σ1:=by
 intro γ φ w vals hS hargs;unfold EM at hF;split at hF
 ·rename_i cd hb
  split at hF
  ·rename_i b rs hcc hrs
   split at hF
   ·obtain⟨np,nt,bd,rs'⟩:=F
    simp only[Fun.erase,zj,Fun.mk.injEq]at hF;obtain⟨rfl,rfl,rfl,rfl⟩:=hF;obtain⟨hlen,hwp⟩:=h;simp only at hlen hwp;have hal:=hargs.len;refine calls_of_wp hf hb (D3 (γe:=γ) (φ0:=φ) (we:=w) (σ0:=σ0) hm bd cd hcc hwp ⟨γ,φ,Kst.refl _ _,hS, ?_,rfl,fun k R hk hg=>⟨Stay.refl,R,hk,hg⟩⟩ (fun x env σ a w' hpost hSR=> ?_) (fun c a dst v w h=>nl h))
    ·have he:(vals.toArray++Array.replicate (fn.ntmps-vals.toArray.size) undef).toList=vals++List.replicate (fn.ntmps-args.length) undef:=by simp [hal]
     show RelL w γ φ (at_ σ0) _ (vals.toArray++Array.replicate (fn.ntmps-vals.toArray.size) undef).toList
     rw[he];refine hargs.append ?_;generalize fn.ntmps-args.length=n
     induction n with
     |zero=>simp [RelL]
     |succ n ih=>simp only[List.replicate_succ,RelL];exact⟨_,_,rfl,by simp [Rel],ih⟩
    ·obtain⟨hx,env',σ',hwk,hge,r,ids,hr,hnd,hids,hnrm⟩:=hpost
     replace hSR:=cy hwk hSR
     clear hwk
     revert env' σ'
     intro env σ hge hr hnrm hSR;obtain⟨γ1,φ1,hK1,hS1,hE1,hd1,hfix1⟩:=hSR;obtain⟨v,hv,hrel⟩:=ot (fn:=fn) hS1 hE1 hrs hr;unfold nrm at hnrm;simp only[Prod.mk.injEq]at hnrm;obtain⟨hres,hσ1⟩:=hnrm
     let φ2:Nat→Nat:=fun k'=>if k'<σ0.length then φ1 k' else φ1 (ids.getD (k'-σ0.length) 0)
     have hat1:∀k',at_ σ1 k'=(if k'<σ0.length then at_ σ k' else ((ids[k'-σ0.length]?).bind (at_ σ))).map (fun R=>{ R with cells:=rnL (nrmR σ0.length ids) R.cells }):=by
      intro k';have htl:(σ.take σ0.length).length=σ0.length:=by simp;omega
      rw[← hσ1];simp only[at_,List.getElem?_map,List.getElem?_append,htl];by_cases hk:k'<σ0.length
      ·rw[if_pos hk,if_pos hk,List.getElem?_take,if_pos hk]
       cases σ[k']? with
       |none=>rfl
       |some x=>cases x<;>rfl
      ·rw[if_neg hk,if_neg hk]
       cases hi:ids[k'-σ0.length]? with
       |none=>simp
       |some i=>
        simp only[hi,Option.map_some,Option.bind_some,at_];cases σ[i]? with
        |none=>rfl
        |some x=>cases x<;>rfl
     have hRen:Ren (nrmR σ0.length ids) φ1 (at_ σ) φ2 (at_ σ1):=by
      refine⟨fun k k' R hk hR=> ?_,fun k' R' hR'=> ?_,fun k1 k2 k' h1 h2=> ?_⟩
      ·unfold nrmR at hk
       split at hk
       ·rename_i hlt
        simp only[zj]at hk;subst hk;exact⟨by simp [φ2,hlt],by rw[hat1,if_pos hlt,hR];rfl⟩
       ·simp only[zm]at hk
        obtain⟨j,hj,rfl⟩:=hk;have hg:=az hj;have hnl:¬ j+σ0.length<σ0.length:=by omega
        refine⟨by simp [φ2,hnl,hg], ?_⟩;rw[hat1,if_neg hnl,show j+σ0.length-σ0.length=j by omega,hg];simp [hR]
      ·rw[hat1]at hR'
       simp only[zm]at hR';obtain⟨R,hR,_⟩:=hR';split at hR
       ·rename_i hlt
        exact⟨k',R,by simp [nrmR,hlt],hR⟩
       ·rename_i hlt
        simp only[Option.bind_eq_some_iff]at hR;obtain⟨i,hi,hR⟩:=hR;have hil:¬ i<σ0.length:=by have:=hids i (List.mem_of_getElem? hi);omega
        refine⟨i,R, ?_,hR⟩;unfold nrmR;rw[if_neg hil,cz hnd hi]
        simp
        omega
      ·unfold nrmR at h1 h2
       split at h1<;>split at h2
       ·simp only[zj]at h1 h2;omega
       ·simp only[zj,zm]at h1 h2
        obtain⟨j,_,h2⟩:=h2;omega
       ·simp only[zj,zm]at h1 h2
        obtain⟨j,_,h1⟩:=h1;omega
       ·simp only[zm]at h1 h2
        obtain⟨j1,h3,h4⟩:=h1;obtain⟨j2,h5,h6⟩:=h2;have:j1=j2:=by omega
        subst this;have e1:=az h3;have e2:=az h5;rw[e1]at e2;simpa using e2
     obtain⟨hK2,hS2⟩:=hS1.rn hRen;have hrel2:=Rel.rn hRen r v hrel;rw[hres]at hrel2;have hgoal:∃v',Ending.returned v=.returned v'∧∃γ' φ',Kst γ w γ' w'∧(∀k R,at_ σ0 k=some R→R.g=false→Stay γ φ γ' φ' k)∧Sim γ' φ' (at_ σ1) w'∧Rel w' γ' φ' (at_ σ1) res v':=by
      refine⟨v,rfl,_,φ2,hK1.trans hK2,fun k R hk hg=> ?_,hS2,hrel2⟩;have hlt:k<σ0.length:=by
       by_cases h:k<σ0.length
       ·exact h
       ·simp [at_,List.getElem?_eq_none (Nat.le_of_not_lt h)]at hk
      have h1:=(hfix1 k R hk hg).1;refine⟨by simp only[φ2,if_pos hlt];exact h1.1,fun hl=> ?_⟩;have h2:=h1.2 hl;simp [h2,Lab.rn,nrmR,hlt]
     obtain⟨v',e,γ',φ',g1,g2,g3,g4⟩:=hgoal;cases x with
     |normal=>exact⟨hd1,v,hv,v',γ',φ',e,g1,g2,g3,g4⟩
     |ret=>exact⟨hd1,v,hv,v',γ',φ',e,g1,g2,g3,g4⟩
     |exit id=>exact hx.elim
   ·cases hF
  ·cases hF
 ·cases hF
#print axioms spec_ofW
def WK(P:Program)(qs l:List Ins)(N:List AV→Sto→Prop)(e:List AV)(σ:Sto):Prop:=runW P qs l e σ N
def WH(P:Program)(n:Nat)(qs:List Ins)(N:List AV→Sto→Prop)(e:List AV)(σ:Sto):Prop:=σ.length=n∧reQ P qs e σ N
def KQ(P:Program)(l:List Ins)(x:AV)(e:List AV)(σ:Sto)(N:List AV→Sto→Prop)(r:AV)(news:Sto):Prop:=r=x∧news=[]∧reQ P l e σ N
def SW(P:Program)(qs l:List Ins)(e:List AV)(d:Option Nat)(N:List AV→Sto→Prop)(ks:Fg)(r:AV)(σ:Sto):Prop:=reQ P qs (put (ei ks e) d r) σ (WK P qs l N)
section
variable {P : Program} {σ : Sto} {N : List AV → Sto → Prop} {l qs p m t : List Ins} {e : List AV} {d : Option Nat} {r x : AV} {news : Sto} {ks : Fg} {m0 : Nat} {X : Nat → List AV → Sto → Prop} {R : List AV → Sto → Prop} {op : I} {n : Nat}
theorem Gr:wpN P m0 (.drawW p qs m t) N X R e σ=runG P p e σ (WH P σ.length qs (WK P qs m (DK P t N))):=nr rfl
theorem MU:WK P qs l N e σ=runW P qs l e σ N:=nr rfl
theorem MV:WH P n qs N e σ=(σ.length=n∧reQ P qs e σ N):=nr rfl
theorem M8:reQ P [] e σ N=N e σ:=nr rfl
theorem JW(k:Nat):reQ P (⟨some k,none,op⟩ :: l) e σ N=gI P (at_ σ) (O.ev e) σ.length op (KQ P l (e.getD k .any) e σ N):=nr rfl
theorem Nv:KR (KQ P l x e σ N) r=(r=x∧reQ P l e σ N):=by simp [KR,KQ]
theorem M5:runW P qs [] e σ N=N e σ:=nr rfl
theorem JT:runW P qs (⟨d,none,op⟩ :: l) e σ N=tI P σ (O.ev e) op (SW P qs l e d N):=nr rfl
theorem N2:SW P qs l e d N ks r σ=reQ P qs (put (ei ks e) d r) σ (WK P qs l N):=nr rfl
theorem Mh:TG (SW P qs l e d N) σ r news=reQ P qs (put e d r) (σ++news) (WK P qs l N):=nr rfl
end
attribute [go_sem] Gr MU MV M8 JW Nv M5 JT N2 Mh
end Go.Lift
