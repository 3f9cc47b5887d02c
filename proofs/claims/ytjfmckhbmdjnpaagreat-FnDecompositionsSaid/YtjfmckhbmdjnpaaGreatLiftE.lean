/-
 LIFT, part 25: a function's contract out of its body. No condition.
-/
import Derived.Test.YtjfmckhbmdjnpaaGreatLiftD
namespace Go.Lift
open Go.RowKit
section
variable {P : Program} {w : World} {γ : Labels} {φ : Nat → Nat} {σ : Sto} {env : List AV} {a : Act}
def B7 (tmps:Array Value):ResultVar→Sem Value
 | .tmp t=>pure (tmps.getD t undef)
 | .cell b t=>do loadVar t (← asAddr (tmps.getD b undef))
theorem A5 (hS:Sim γ φ (at_ σ) w) (hE:RelL w γ φ (at_ σ) env a.tmps.toList) {x:ResultVar} {y:RV} (hc:cRV P x=some y) {r:AV} (h:r8 env σ y=some r):
  ∃ v,(B7 a.tmps x).run P w=.ok v w∧Rel w γ φ (at_ σ) r v:=by
 cases x with
 | tmp t=>
  simp only[cRV,zj]at hc
  subst hc
  simp only[r8,zj]at h
  subst h
  exact⟨_,rfl,du hE t⟩
 | cell b t=>
  simp only[cRV]at hc
  split at hc
  ·rename_i n hg hn
   simp only[zj]at hc
   subst hc
   simp only[r8]at h
   split at h
   ·rename_i k off hev
    split at h
    ·rename_i R hR
     split at h
     ·rename_i hle
      simp only[zj]at h
      subst h
      have hp:=du hE b
      rw[hev]at hp
      simp only[Rel]at hp
      obtain⟨_,_,hp⟩:=hp
      obtain⟨vs,hvl,hvs⟩:=hU (w:=w) (ad:=⟨φ k,off,none⟩) (n:=n) (Q:=fun j v=>∀ av,R.cells[off+j]? =some av→Rel w γ φ (at_ σ) (cv k (off+j) av) v) (fun j hj=>by
       obtain⟨v,hv,hrel⟩:=q9 hS hR (off:=off+j) (av:=R.cells[off+j]'(by omega)) (by simp)
       exact⟨v,by rw[cN];exact hv,fun av hav=>by rw[zg (by omega)]at hav;simp at hav;subst hav;exact hrel⟩)
      have hl:=run_loadCells_list (P:=P) w ⟨φ k,off,none⟩ vs (fun j v hv=>(hvs j v hv).1)
      rw[hvl]at hl
      obtain⟨i,hi,hsz⟩:∃ i,P.info? t=some i∧i.size=n:=by simpa [szOf]using hn
      refine⟨.agg vs.toArray, ?_, ?_⟩
      ·simp only[B7,hp,asAddr]
       simp [loadVar,gt hg,sizeOf,typeInfo,hi,hsz,hl]
      ·simp only[Rel]
       refine⟨_,rfl,RelL.of_get ?_ fun i x hx=> ?_⟩
       ·simp only[xL,List.length_take,List.length_drop];omega
       ·rw[xM]at hx
        simp only[zm,List.getElem?_take,List.getElem?_drop]at hx
        obtain⟨av,hav,rfl⟩:=hx
        split at hav
        ·rename_i hi
         have hlt:i<vs.length:=by omega
         exact⟨vs[i],by simp [hlt],(hvs i _ (by simp [hlt])).2 av hav⟩
        ·cases hav
     ·cases h
    ·cases h
   ·cases h
  ·cases hc
theorem yo (hS:Sim γ φ (at_ σ) w) (hE:RelL w γ φ (at_ σ) env a.tmps.toList):∀ {l:List ResultVar} {rs:List RV},cRVs P l=some rs→∀ {m:List AV},resL env σ rs=some m→
  ∃ vs,(l.mapM (B7 a.tmps)).run P w=.ok vs w∧RelL w γ φ (at_ σ) m vs
 | [],rs,hc,m,h=>by
  simp only[cRVs,zj]at hc
  subst hc
  simp only[resL,zj]at h
  subst h
  exact⟨[],rfl,by simp [RelL]⟩
 | x :: l,rs,hc,m,h=>by
  simp only[cRVs]at hc
  split at hc
  ·rename_i y rs' hy hrs
   simp only[zj]at hc
   subst hc
   simp only[resL]at h
   split at h
   ·rename_i z m' hz hm
    simp only[zj]at h
    subst h
    obtain⟨v,hv,hr⟩:=A5 hS hE hy hz
    obtain⟨vs,hvs,hrl⟩:=yo hS hE hrs hm
    refine⟨v :: vs, ?_,by simp only[RelL];exact⟨v,vs,rfl,hr,hrl⟩⟩
    rw[List.mapM_cons,Sem.run_bind,hv]
    simp only[Result.andThen_ok,Sem.run_bind,hvs,Sem.run_pure]
   ·cases h
  ·cases hc
theorem mI {fn:Func} (hS:Sim γ φ (at_ σ) w) (hE:RelL w γ φ (at_ σ) env a.tmps.toList) {rs:List RV} (hc:cRVs P fn.results.toList=some rs) {r:AV} (h:resA rs env σ=some r):
  ∃ v,(results fn a.tmps).run P w=.ok v w∧Rel w γ φ (at_ σ) r v:=by
 unfold resA at h
 have key:∀ {m},resL env σ rs=some m→∃ vs:List Value,(results fn a.tmps).run P w=.ok (if h:vs.toArray.size=1 then vs.toArray[0] else .tuple vs.toArray) w∧RelL w γ φ (at_ σ) m vs:=by
  intro m hm
  obtain⟨vs,hvs,hrl⟩:=yo hS hE hc hm
  refine⟨vs, ?_,hrl⟩
  have he:results fn a.tmps=(do let vs ← fn.results.mapM (B7 a.tmps);pure (if h:vs.size=1 then vs[0] else .tuple vs)):=by
   unfold results
   rfl
  rw[he,Sem.run_bind,Array.mapM_eq_mapM_toList,Sem.run_map,hvs]
  rfl
 split at h
 ·rename_i x hm
  simp only[zj]at h
  subst h
  obtain⟨vs,hvs,hrl⟩:=key hm
  simp only[RelL]at hrl
  obtain⟨v,vs',rfl,hr,rfl⟩:=hrl
  exact⟨v,by rw[hvs];rfl,hr⟩
 ·rename_i m hne hm
  simp only[zj]at h
  subst h
  obtain⟨vs,hvs,hrl⟩:=key hm
  refine⟨.tuple vs.toArray, ?_,by simp only[Rel];exact⟨_,rfl,hrl⟩⟩
  have hl:=hrl.len
  have h1:¬ vs.toArray.size=1:=by
   intro h1
   have:m.length=1:=by simp at h1;omega
   match m,this with
   | [x],_=>exact hne x rfl
  rw[hvs,dif_neg h1]
 ·cases h
end
theorem lS {P:Program} {fn:Func} {R:Ending→World→Prop} {c:_} {a:Act} {dst:Option Tmp} {v:Value} {w:World} (h:bodyPost P fn R (Exit.panic c) (a.put dst v) w):bodyPost P fn R (.panic c) a w:=by
 cases dst with
 | none=>exact h
 | some d=>exact h
theorem spec_of {P:Program} {f:FuncId} {fn:Func} {F:Fun} {args:List AV} {σ0:Sto} {res:AV} {σ1:Sto} (hm:P.follows .mixedOrders=true) (hf:P.funcs[f]? =some fn) (hF:cFun P fn=some F.erase) (h:FnOk P F args σ0 res σ1):Does P f args σ0 res σ1:=by
 intro γ φ w vals hS hargs
 unfold cFun at hF
 split at hF
 ·rename_i cd hb
  split at hF
  ·rename_i b rs hcc hrs
   split at hF
   ·obtain⟨np,nt,bd,rs'⟩:=F
    simp only[Fun.erase,zj,Fun.mk.injEq]at hF
    obtain⟨rfl,rfl,rfl,rfl⟩:=hF
    obtain⟨hlen,hwp⟩:=h
    simp only at hlen hwp
    have hal:=hargs.len
    refine calls_of_wp hf hb (BQ (γe:=γ) (φ0:=φ) (we:=w) (σ0:=σ0) hm bd cd hcc hwp ⟨γ,φ,Kst.refl _ _,hS, ?_,rfl,fun k R hk hg=>⟨Stay.refl,R,hk,hg⟩⟩ (fun x env σ a w' hpost hSR=> ?_) (fun c a dst v w h=>lS h))
    ·have he:(vals.toArray++Array.replicate (fn.ntmps-vals.toArray.size) undef).toList=vals++List.replicate (fn.ntmps-args.length) undef:=by simp [hal]
     show RelL w γ φ (at_ σ0) _ (vals.toArray++Array.replicate (fn.ntmps-vals.toArray.size) undef).toList
     rw[he]
     refine hargs.append ?_
     generalize fn.ntmps-args.length=n
     induction n with
     | zero=>simp [RelL]
     | succ n ih=>simp only[List.replicate_succ,RelL];exact⟨_,_,rfl,by simp [Rel],ih⟩
    ·obtain⟨hx,env',σ',hwk,hge,r,ids,hr,hnd,hids,hnrm⟩:=hpost
     replace hSR:=cg hwk hSR
     clear hwk
     revert env' σ'
     intro env σ hge hr hnrm hSR
     obtain⟨γ1,φ1,hK1,hS1,hE1,hd1,hfix1⟩:=hSR
     obtain⟨v,hv,hrel⟩:=mI (fn:=fn) hS1 hE1 hrs hr
     unfold nrm at hnrm
     simp only[Prod.mk.injEq]at hnrm
     obtain⟨hres,hσ1⟩:=hnrm
     let φ2:Nat→Nat:=fun k'=>if k'<σ0.length then φ1 k' else φ1 (ids.getD (k'-σ0.length) 0)
     have hat1:∀ k',at_ σ1 k'=(if k'<σ0.length then at_ σ k' else ((ids[k'-σ0.length]?).bind (at_ σ))).map (fun R=>{ R with cells:=rnL (nrmR σ0.length ids) R.cells }):=by
      intro k'
      have htl:(σ.take σ0.length).length=σ0.length:=by simp;omega
      rw[← hσ1]
      simp only[at_,List.getElem?_map,List.getElem?_append,htl]
      by_cases hk:k'<σ0.length
      ·rw[if_pos hk,if_pos hk,List.getElem?_take,if_pos hk]
       cases σ[k']? with
       | none=>rfl
       | some x=>cases x<;>rfl
      ·rw[if_neg hk,if_neg hk]
       cases hi:ids[k'-σ0.length]? with
       | none=>simp
       | some i=>
        simp only[Option.map_some,Option.bind_some,at_]
        cases σ[i]? with
        | none=>rfl
        | some x=>cases x<;>rfl
     have hRen:Ren (nrmR σ0.length ids) φ1 (at_ σ) φ2 (at_ σ1):=by
      refine⟨fun k k' R hk hR=> ?_,fun k' R' hR'=> ?_,fun k1 k2 k' h1 h2=> ?_⟩
      ·unfold nrmR at hk
       split at hk
       ·rename_i hlt
        simp only[zj]at hk
        subst hk
        exact⟨by simp [φ2,hlt],by rw[hat1,if_pos hlt,hR];rfl⟩
       ·simp only[zm]at hk
        obtain⟨j,hj,rfl⟩:=hk
        have hg:=aC hj
        have hnl:¬ j+σ0.length<σ0.length:=by omega
        refine⟨by simp [φ2,hnl,hg], ?_⟩
        rw[hat1,if_neg hnl,show j+σ0.length-σ0.length=j by omega,hg]
        simp [hR]
      ·rw[hat1]at hR'
       simp only[zm]at hR'
       obtain⟨R,hR,_⟩:=hR'
       split at hR
       ·rename_i hlt
        exact⟨k',R,by simp [nrmR,hlt],hR⟩
       ·rename_i hlt
        simp only[Option.bind_eq_some_iff]at hR
        obtain⟨i,hi,hR⟩:=hR
        have hil:¬ i<σ0.length:=by have:=hids i (List.mem_of_getElem? hi);omega
        refine⟨i,R, ?_,hR⟩
        unfold nrmR
        rw[if_neg hil,cj hnd hi]
        simp
        omega
      ·unfold nrmR at h1 h2
       split at h1<;>split at h2
       ·simp only[zj]at h1 h2;omega
       ·simp only[zj,zm]at h1 h2
        obtain⟨j,_,h2⟩:=h2
        omega
       ·simp only[zj,zm]at h1 h2
        obtain⟨j,_,h1⟩:=h1
        omega
       ·simp only[zm]at h1 h2
        obtain⟨j1,h3,h4⟩:=h1
        obtain⟨j2,h5,h6⟩:=h2
        have:j1=j2:=by omega
        subst this
        have e1:=aC h3
        have e2:=aC h5
        rw[e1]at e2
        simpa using e2
     obtain⟨hK2,hS2⟩:=hS1.rn hRen
     have hrel2:=Rel.rn hRen r v hrel
     rw[hres]at hrel2
     have hgoal:∃ v',Ending.returned v=.returned v'∧∃ γ' φ',Kst γ w γ' w'∧(∀ k R,at_ σ0 k=some R→R.g=false→Stay γ φ γ' φ' k)∧Sim γ' φ' (at_ σ1) w'∧Rel w' γ' φ' (at_ σ1) res v':=by
      refine⟨v,rfl,_,φ2,hK1.trans hK2,fun k R hk hg=> ?_,hS2,hrel2⟩
      have hlt:k<σ0.length:=by
       by_cases h:k<σ0.length
       ·exact h
       ·simp [at_,List.getElem?_eq_none (Nat.le_of_not_lt h)]at hk
      have h1:=(hfix1 k R hk hg).1
      refine⟨by simp only[φ2,if_pos hlt];exact h1.1,fun hl=> ?_⟩
      have h2:=h1.2 hl
      simp [h2,Lab.rn,nrmR,hlt]
     obtain⟨v',e,γ',φ',g1,g2,g3,g4⟩:=hgoal
     cases x with
     | normal=>exact⟨hd1,v,hv,v',γ',φ',e,g1,g2,g3,g4⟩
     | ret=>exact⟨hd1,v,hv,v',γ',φ',e,g1,g2,g3,g4⟩
     | exit id=>exact hx.elim
   ·cases hF
  ·cases hF
 ·cases hF
#print axioms spec_of
end Go.Lift
namespace Go.Lift
theorem Jt {x:Int} (h1: -9223372036854775808≤x) (h2:x≤9223372036854775807):IntKind.i64.wrap x=x:=FM ⟨h1,h2⟩
theorem nr {α:Sort _} {a b:α} (h:a=b):a=b:=h
theorem nb {a b:Nat} (h:Nat.ble a b=true):a≤b:=Nat.le_of_ble_eq_true h
def mkB:Nat→Nat→List Bool
 | 0,_=>[]
 | n+1,b=>(b % 2==1) :: mkB n (b / 2)
theorem K0 (b:Nat):mkB 0 b=[]:=nr rfl
theorem JZ (n b:Nat):mkB (n+1) b=(b % 2==1) :: mkB n (b / 2):=nr rfl
attribute [go_sem] K0 JZ
def wpN (P:Program) (m0:Nat) (c:C) (N:List AV→Sto→Prop) (X:Nat→List AV→Sto→Prop) (R:List AV→Sto→Prop) (e:List AV) (σ:Sto):Prop:=
 wpC P m0 c (fun x=>match x with
  | .normal=>N
  | .exit i=>X i
  | .ret=>R) e σ
section
variable {P : Program} {m0 : Nat} {N : List AV → Sto → Prop} {X : Nat → List AV → Sto → Prop} {R : List AV → Sto → Prop} {e : List AV} {σ : Sto}
theorem Dp:wpN P m0 .skip N X R e σ=N e σ:=nr rfl
theorem FQ (l:List Ins):wpN P m0 (.reg l) N X R e σ=Lift.runT P l e σ N:=nr rfl
theorem FO (a b:C):wpN P m0 (.seq a b) N X R e σ=wpN P m0 a (wpN P m0 b N X R) X R e σ:=by
 unfold wpN
 rw[wpC]
 congr 1
 funext x
 cases x<;>rfl
theorem Ju (c:O) (a b:C):wpN P m0 (.cond c a b) N X R e σ=match c.ev e with
  | .d (.bool t)=>if t=true then wpN P m0 a N X R e σ else wpN P m0 b N X R e σ
  | _=>False:=nr rfl
theorem BP (id:Nat) (b:C):wpN P m0 (.block id b) N X R e σ=wpN P m0 b N (fun i e σ=>if i=id then N e σ else X i e σ) R e σ:=by
 unfold wpN
 rw[wpC]
 congr 1
 funext x
 cases x<;>rfl
theorem Dq (id:Nat):wpN P m0 (.exit id) N X R e σ=X id e σ:=nr rfl
theorem FP:wpN P m0 .ret N X R e σ=R e σ:=nr rfl
def GH (m0:Nat) (N:List AV→Sto→Prop) (e:List AV) (σ:Sto):Prop:=∃ e' σ',Wk m0 e σ e' σ'∧N e' σ'
theorem GH.mk {e':List AV} {σ':Sto} (h:Wk m0 e σ e' σ') (hN:N e' σ'):GH m0 N e σ:=⟨e',σ',h,hN⟩
theorem HQ (a:C):wpN P m0 (.gh a) N X R e σ=wpN P m0 a (GH m0 N) X R e σ:=by
 unfold wpN
 rw[wpC]
 congr 1
 funext x
 cases x<;>rfl
theorem tB {b:C} (J:Nat→List AV→Sto→Prop) (h0:∃ m e' σ',Wk m0 e σ e' σ'∧J m e' σ') (hr:∀ m e σ,J m e σ→wpN P m0 b (fun e σ=>∃ m' e' σ',m'<m∧Wk m0 e σ e' σ'∧J m' e' σ') X R e σ):wpN P m0 (.loop b) N X R e σ:=by
 unfold wpN
 rw[wpC]
 refine⟨J,h0,fun m e σ hJ=> ?_⟩
 have:=hr m e σ hJ
 unfold wpN at this
 refine cast (congrArg (fun K=>wpC P m0 b K e σ) ?_) this
 funext x
 cases x<;>rfl
def Next (m0 n:Nat) (E:Nat→List AV) (S:Nat→Sto) (k:Nat) (e:List AV) (σ:Sto):Prop:=
 ∃ m' e' σ',m'<n-k∧Wk m0 e σ e' σ'∧∃ k',k'≤n∧m'=n-k'∧e'=E k'∧σ'=S k'
theorem Next.mk {n k:Nat} {E:Nat→List AV} {S:Nat→Sto} (h:k<n) (hw:Wk m0 e σ (E (k+1)) (S (k+1))):Next m0 n E S k e σ:=
 ⟨n-(k+1),_,_,by omega,hw,k+1,by omega,rfl,rfl,rfl⟩
theorem gE {b:C} (n:Nat) (E:Nat→List AV) (S:Nat→Sto) (h0:Wk m0 e σ (E 0) (S 0))
  (hr:∀ k,k≤n→wpN P m0 b (Next m0 n E S k) X R (E k) (S k)):wpN P m0 (.loop b) N X R e σ:=by
 refine tB (fun m e σ=>∃ k,k≤n∧m=n-k∧e=E k∧σ=S k) ⟨n,_,_,h0,0,Nat.zero_le _,by omega,rfl,rfl⟩ ?_
 rintro m e σ ⟨k,hk,rfl,rfl,rfl⟩
 exact hr k hk
def NextI (m0 n:Nat) (I:Nat→Prop) (E:Nat→List AV) (S:Nat→Sto) (k:Nat) (e:List AV) (σ:Sto):Prop:=
 ∃ m' e' σ',m'<n-k∧Wk m0 e σ e' σ'∧∃ k',k'≤n∧m'=n-k'∧I k'∧e'=E k'∧σ'=S k'
theorem NextI.mk {n k:Nat} {I:Nat→Prop} {E:Nat→List AV} {S:Nat→Sto} (h:k<n) (hi:I (k+1)) (hw:Wk m0 e σ (E (k+1)) (S (k+1))):NextI m0 n I E S k e σ:=
 ⟨n-(k+1),_,_,by omega,hw,k+1,by omega,rfl,hi,rfl,rfl⟩
theorem kr {b:C} (n:Nat) (I:Nat→Prop) (E:Nat→List AV) (S:Nat→Sto) (hi:I 0) (h0:Wk m0 e σ (E 0) (S 0))
  (hr:∀ k,k≤n→I k→wpN P m0 b (NextI m0 n I E S k) X R (E k) (S k)):wpN P m0 (.loop b) N X R e σ:=by
 refine tB (fun m e σ=>∃ k,k≤n∧m=n-k∧I k∧e=E k∧σ=S k) ⟨n,_,_,h0,0,Nat.zero_le _,by omega,hi,rfl,rfl⟩ ?_
 rintro m e σ ⟨k,hk,rfl,hi,rfl,rfl⟩
 exact hr k hk hi
def FnEnd (l:List RV) (m:Nat) (res:AV) (σ1:Sto) (env:List AV) (σ:Sto):Prop:=
 ∃ env' σ',Wk m env σ env' σ'∧m≤σ'.length∧∃ r ids,resA l env' σ'=some r∧ids.Nodup∧(∀ k∈ids,m≤k)∧nrm m ids r σ'=(res,σ1)
theorem FnEnd.wk {l:List RV} {m:Nat} {res:AV} {σ1 σ':Sto} {env':List AV} (h:Wk m e σ env' σ') (h':FnEnd l m res σ1 env' σ'):FnEnd l m res σ1 e σ:=by
 obtain⟨e2,σ2,h1,h2⟩:=h'
 exact⟨e2,σ2,h.trans h1,h2⟩
theorem FnEnd.mk {l:List RV} {m:Nat} {r res:AV} {σ σ1:Sto} {env:List AV} (h0:m≤σ.length) (h1:resA l env σ=some r) (h2:(idsN m r).Nodup) (h4:rn (nrmR m (idsN m r)) r=res)
  (h5:(σ.take m++(idsN m r).map (at_ σ)).map (Option.map fun R=>{ R with cells:=rnL (nrmR m (idsN m r)) R.cells })=σ1):FnEnd l m res σ1 env σ:=
 ⟨env,σ,Wk.refl _ _,h0,r,idsN m r,h1,h2,(fun k hk=>by simpa using (List.mem_filter.1 hk).2),Prod.ext h4 h5⟩
theorem zE {l:List RV} {m:Nat} {r res:AV} {σ σ1:Sto} {env:List AV} (h4:rn (nrmR m (idsN m r)) r=res)
 (h5:(σ.take m++(idsN m r).map (at_ σ)).map (Option.map fun R=>{ R with cells:=rnL (nrmR m (idsN m r)) R.cells })=σ1) (h0:m≤σ.length:=by exact nb rfl) (h1:resA l env σ=some r:=by rfl) (h2:(idsN m r).Nodup:=by exact of_decide_eq_true rfl):FnEnd l m res σ1 env σ:=FnEnd.mk h0 h1 h2 h4 h5
theorem fnOk {F:Fun} {args:List AV} {σ0:Sto} {res:AV} {σ1:Sto} (hlen:args.length≤F.nt)
  (h:wpN P σ0.length F.body (FnEnd F.res σ0.length res σ1) (fun _ _ _=>False) (FnEnd F.res σ0.length res σ1) (args++List.replicate (F.nt-args.length) .und) σ0):FnOk P F args σ0 res σ1:=by
 refine⟨hlen, ?_⟩
 unfold wpN at h
 refine cast (congrArg (fun K=>wpC P σ0.length F.body K (args++List.replicate (F.nt-args.length) .und) σ0) ?_) h
 funext x env σ
 cases x<;>simp [FnEnd]
end
end Go.Lift
namespace Go.Lift
def KR (K:AV→Sto→Prop) (r:AV):Prop:=K r []
def TG (K:Fg→AV→Sto→Prop) (σ:Sto) (r:AV) (news:Sto):Prop:=K .no r (σ++news)
def SG (P:Program) (l:List Ins) (e:List AV) (σ:Sto) (d:Option Nat) (K:List AV→Sto→Prop) (r:AV) (news:Sto):Prop:=runG P l (put e d r) (σ++news) K
def ST (P:Program) (l:List Ins) (e:List AV) (d:Option Nat) (K:List AV→Sto→Prop) (ks:Fg) (r:AV) (σ:Sto):Prop:=Lift.runT P l (put (dG ks e) d r) σ K
def DK (P:Program) (t:List Ins) (N:List AV→Sto→Prop) (e:List AV) (σ:Sto):Prop:=Lift.runT P t e σ N
def XB (id:Nat) (N:List AV→Sto→Prop) (X:Nat→List AV→Sto→Prop) (i:Nat) (e:List AV) (σ:Sto):Prop:=if i=id then N e σ else X i e σ
section
variable {P : Program} {σ : Sto} {s : St} {ev : O → AV} {k0 : Nat} {K : AV → Sto → Prop} {T : Fg → AV → Sto → Prop} {N : List AV → Sto → Prop} {l : List Ins} {e : List AV} {d : Option Nat} {r : AV} {news : Sto} {ks : Fg} {m0 : Nat} {X : Nat → List AV → Sto → Prop} {R : List AV → Sto → Prop} {t : List Ins} {op : I}
theorem K9:KR (SG P l e σ d N) r=runG P l (put e d r) σ N:=by simp only[KR,SG,List.append_nil]
theorem K6:KR (TG (ST P l e d N) σ) r=Lift.runT P l (put e d r) σ N:=by simp only[KR,TG,ST,List.append_nil,dG]
theorem kg:SG P l e σ d N r news=runG P l (put e d r) (σ++news) N:=nr rfl
theorem K5:TG (ST P l e d N) σ r news=Lift.runT P l (put e d r) (σ++news) N:=nr rfl
theorem kt:ST P l e d N ks r σ=Lift.runT P l (put (dG ks e) d r) σ N:=nr rfl
theorem dk:DK P t N e σ=Lift.runT P t e σ N:=nr rfl
theorem xb (id i:Nat):XB id N X i e σ=if i=id then N e σ else X i e σ:=nr rfl
theorem IA:runG P [] e σ N=N e σ:=nr rfl
theorem Iw:Lift.runT P [] e σ N=N e σ:=nr rfl
theorem Gq:runG P (⟨d,none,op⟩ :: l) e σ N=gI P (at_ σ) (O.ev e) σ.length op (SG P l e σ d N):=nr rfl
theorem Gi:Lift.runT P (⟨d,none,op⟩ :: l) e σ N=tI P σ (O.ev e) op (ST P l e d N):=nr rfl
def GG (x:AV) (w:Bool) (P:Program) (d:Option Nat) (op:I) (l:List Ins) (e:List AV) (σ:Sto) (N:List AV→Sto→Prop):Prop:=match x with
  | .d (.bool b)=>if b=w then gI P (at_ σ) (O.ev e) σ.length op (SG P l e σ d N) else runG P l (put e d .und) σ N
  | .und=>runG P l (put e d .und) σ N
  | _=>False
def GT (x:AV) (w:Bool) (P:Program) (d:Option Nat) (op:I) (l:List Ins) (e:List AV) (σ:Sto) (N:List AV→Sto→Prop):Prop:=match x with
  | .d (.bool b)=>if b=w then tI P σ (O.ev e) op (ST P l e d N) else Lift.runT P l (put e d .und) σ N
  | .und=>Lift.runT P l (put e d .und) σ N
  | _=>False
def PK (x a b:AV) (K:AV→Sto→Prop):Prop:=match x with
  | .d (.bool t)=>if t=true then KR K a else KR K b
  | _=>False
def CD (x:AV) (P:Program) (m0:Nat) (a b:C) (N:List AV→Sto→Prop) (X:Nat→List AV→Sto→Prop) (R:List AV→Sto→Prop) (e:List AV) (σ:Sto):Prop:=match x with
  | .d (.bool t)=>if t=true then wpN P m0 a N X R e σ else wpN P m0 b N X R e σ
  | _=>False
theorem E7 (g:Nat) (w:Bool):runG P (⟨d,some (g,w),op⟩ :: l) e σ N=GG (e.getD g .any) w P d op l e σ N:=nr rfl
theorem E4 (g:Nat) (w:Bool):Lift.runT P (⟨d,some (g,w),op⟩ :: l) e σ N=GT (e.getD g .any) w P d op l e σ N:=nr rfl
theorem Kj:GG (.d (.bool true)) true P d op l e σ N=gI P (at_ σ) (O.ev e) σ.length op (SG P l e σ d N):=nr rfl
theorem Km:GG (.d (.bool false)) false P d op l e σ N=gI P (at_ σ) (O.ev e) σ.length op (SG P l e σ d N):=nr rfl
theorem Kk:GG (.d (.bool true)) false P d op l e σ N=runG P l (put e d .und) σ N:=nr rfl
theorem Kl:GG (.d (.bool false)) true P d op l e σ N=runG P l (put e d .und) σ N:=nr rfl
theorem Je (w:Bool):GG .und w P d op l e σ N=runG P l (put e d .und) σ N:=nr rfl
theorem Kd:GT (.d (.bool true)) true P d op l e σ N=tI P σ (O.ev e) op (ST P l e d N):=nr rfl
theorem Kg:GT (.d (.bool false)) false P d op l e σ N=tI P σ (O.ev e) op (ST P l e d N):=nr rfl
theorem Ke:GT (.d (.bool true)) false P d op l e σ N=Lift.runT P l (put e d .und) σ N:=nr rfl
theorem Kf:GT (.d (.bool false)) true P d op l e σ N=Lift.runT P l (put e d .und) σ N:=nr rfl
theorem IU (w:Bool):GT .und w P d op l e σ N=Lift.runT P l (put e d .und) σ N:=nr rfl
theorem HR (c:O) (a b:C):wpN P m0 (.cond c a b) N X R e σ=CD (c.ev e) P m0 a b N X R e σ:=nr rfl
theorem cd_t (a b:C):CD (.d (.bool true)) P m0 a b N X R e σ=wpN P m0 a N X R e σ:=nr rfl
theorem cd_f (a b:C):CD (.d (.bool false)) P m0 a b N X R e σ=wpN P m0 b N X R e σ:=nr rfl
theorem pk_t (a b:AV):PK (.d (.bool true)) a b K=KR K a:=nr rfl
theorem pk_f (a b:AV):PK (.d (.bool false)) a b K=KR K b:=nr rfl
theorem FR (p t:List Ins):wpN P m0 (.draw p t) N X R e σ=runG P p e σ (DK P t N):=nr rfl
theorem FS (id:Nat) (b:C):wpN P m0 (.block id b) N X R e σ=wpN P m0 b N (XB id N X) R e σ:=BP id b
theorem Kh (x:O):gI P s ev k0 (.mv x) K=KR K (ev x):=nr rfl
theorem Jz (x:O):tI P σ ev (.mv x) T=gI P (at_ σ) ev σ.length (.mv x) (TG T σ):=nr rfl
theorem H4 (c:O) (a:O) (b:O):gI P s ev k0 (.pick c a b) K=PK (ev c) (ev a) (ev b) K:=nr rfl
theorem FW (c:O) (a:O) (b:O):tI P σ ev (.pick c a b) T=gI P (at_ σ) ev σ.length (.pick c a b) (TG T σ):=nr rfl
theorem Ja (x:O):gI P s ev k0 (.box x) K=match lQ (ev x)with
  | some l=>K (.ptr k0 0) [some ⟨0,false,l⟩]
  | none=>False:=nr rfl
theorem I8 (x:O):tI P σ ev (.box x) T=gI P (at_ σ) ev σ.length (.box x) (TG T σ):=nr rfl
theorem IV (z:List AV):gI P s ev k0 (.zer z) K=K (.ptr k0 0) [some ⟨0,false,z⟩]:=nr rfl
theorem HW (z:List AV):tI P σ ev (.zer z) T=gI P (at_ σ) ev σ.length (.zer z) (TG T σ):=nr rfl
theorem Jd (z:List AV) (ps:List (Nat × Nat × O)):gI P s ev k0 (.agg z ps) K=match m5 ev z ps with
  | some l=>KR K (.agg l)
  | none=>False:=nr rfl
theorem Ic (z:List AV) (ps:List (Nat × Nat × O)):tI P σ ev (.agg z ps) T=gI P (at_ σ) ev σ.length (.agg z ps) (TG T σ):=nr rfl
theorem H5 (e:Nat) (n:Nat) (z:List AV) (ps:List (Nat × Nat × O)):gI P s ev k0 (.mksl e n z ps) K=match m5 ev (bA n z) ps with
  | some l=>K (.own k0 0 n) [some ⟨e,true,l⟩]
  | none=>False:=nr rfl
theorem FX (e:Nat) (n:Nat) (z:List AV) (ps:List (Nat × Nat × O)):tI P σ ev (.mksl e n z ps) T=gI P (at_ σ) ev σ.length (.mksl e n z ps) (TG T σ):=nr rfl
theorem Ki (a:O):gI P s ev k0 (.ld a) K=match ev a with
  | .ptr k off=>match s k with
   | some R=>match R.cells[off]? with
    | some av=>KR K (cv k off av)
    | none=>False
   | none=>False
  | .rptr l off=>match l[off]? with
   | some x=>KR K (.d x)
   | none=>False
  | .sptr k j off=>match s k with
   | some R=>match R.cells[j]? with
    | some (.tr (.sl _ l))=>match l[off]? with
     | some (.int x)=>KR K (.d (.int x))
     | some (.bool x)=>KR K (.d (.bool x))
     | _=>False
    | _=>False
   | none=>False
  | _=>False:=nr rfl
theorem JA (a:O):tI P σ ev (.ld a) T=gI P (at_ σ) ev σ.length (.ld a) (TG T σ):=nr rfl
theorem J3 (n:Nat) (a:O):gI P s ev k0 (.ldn n a) K=match ev a with
  | .ptr k off=>match s k with
   | some R=>off+n≤R.cells.length∧KR K (.agg (cvL k off ((R.cells.drop off).take n)))
   | none=>False
  | .rptr l off=>off+n≤l.length∧KR K (.agg (((l.drop off).take n).map .d))
  | _=>False:=nr rfl
theorem I2 (n:Nat) (a:O):tI P σ ev (.ldn n a) T=gI P (at_ σ) ev σ.length (.ldn n a) (TG T σ):=nr rfl
theorem Jb (op:BinOp) (x:O) (y:O):gI P s ev k0 (.bin op x y) K=match ev x,ev y with
  | .d (.int a),.d (.int b)=>binA op a b (KR K)
  | _,_=>False:=nr rfl
theorem I9 (op:BinOp) (x:O) (y:O):tI P σ ev (.bin op x y) T=gI P (at_ σ) ev σ.length (.bin op x y) (TG T σ):=nr rfl
theorem J8 (b:Bool) (x:O):gI P s ev k0 (.cvt b x) K=match ev x with
  | .d (.byte n)=>b=false∧KR K (.d (.int (IntKind.i64.wrap n)))
  | .d (.int n)=>b=true∧KR K (.d (.byte (IntKind.u8.wrap n)))
  | _=>False:=nr rfl
theorem I7 (b:Bool) (x:O):tI P σ ev (.cvt b x) T=gI P (at_ σ) ev σ.length (.cvt b x) (TG T σ):=nr rfl
theorem IY (n:Nat) (x:O):gI P s ev k0 (.shk n x) K=match ev x with
  | .d (.int a)=>KR K (.d (.int (a.fdiv (2 ^ (min n 64)))))
  | _=>False:=nr rfl
theorem J9 (x:O):gI P s ev k0 (.bst x) K=match lenA s (ev x)with
  | some m=>match srcA s m (ev x)with
   | some l=>match nm l with
    | some zs=>KR K (.d (.str (tN zs)))
    | none=>False
   | none=>False
  | none=>False:=nr rfl
theorem IZ (x:O):gI P s ev k0 (.not x) K=match ev x with
  | .d (.bool a)=>KR K (.d (.bool (!a)))
  | _=>False:=nr rfl
theorem HY (x:O):tI P σ ev (.not x) T=gI P (at_ σ) ev σ.length (.not x) (TG T σ):=nr rfl
theorem H6 (e:Nat) (bytes:Nat) (z:List AV) (l:O) (c:O):gI P s ev k0 (.make e bytes z l c) K=match ev l,ev c with
  | .d (.int l),.d (.int c)=>(0≤l∧l≤c∧bytes*c≤281474976710656)∧K (.own k0 0 l.toNat) [some ⟨e,true,bA l.toNat z⟩]
  | _,_=>False:=nr rfl
theorem FY (e:Nat) (bytes:Nat) (z:List AV) (l:O) (c:O):tI P σ ev (.make e bytes z l c) T=gI P (at_ σ) ev σ.length (.make e bytes z l c) (TG T σ):=nr rfl
theorem IW (e:Nat) (x:O) (lo:Option O) (hi:Option O):gI P s ev k0 (.slc e x lo hi) K=match ev x with
  | .own k off n=>match optB ev lo 0,optB ev hi n,s k with
   | some l,some h,some R=>(0≤l∧l≤h∧h≤n)∧(R.g=true→R.e=e)∧KR K (if l=0∨l<h then .own k (off+l.toNat*e) (h-l).toNat else .d (.sl 0 []))
   | _,_,_=>False
  | .d (.sl n cs)=>match optB ev lo 0,optB ev hi n with
   | some l,some h=>(0≤l∧l≤h∧h≤n)∧KR K (.d (.sl (h-l).toNat ((cs.drop (l.toNat*e)).take ((h-l).toNat*e))))
   | _,_=>False
  | .nil=>match optB ev lo 0,optB ev hi 0 with
   | some l,some h=>(l=0∧h=0)∧KR K .nil
   | _,_=>False
  | _=>False:=nr rfl
theorem HX (e:Nat) (x:O) (lo:Option O) (hi:Option O):tI P σ ev (.slc e x lo hi) T=gI P (at_ σ) ev σ.length (.slc e x lo hi) (TG T σ):=nr rfl
theorem J6 (off:Nat) (x:O):gI P s ev k0 (.fld off x) K=match ev x with
  | .ptr k o=>KR K (.ptr k (o+off))
  | .rptr l o=>KR K (.rptr l (o+off))
  | _=>False:=nr rfl
theorem I5 (off:Nat) (x:O):tI P σ ev (.fld off x) T=gI P (at_ σ) ev σ.length (.fld off x) (TG T σ):=nr rfl
theorem J5 (e:Nat) (x:O) (i:O):gI P s ev k0 (.idx e x i) K=match ev x,ev i with
  | .own k off n,.d (.int i)=>(0≤i∧i<n)∧KR K (.ptr k (off+i.toNat*e))
  | .d (.sl n l),.d (.int i)=>(0≤i∧i<n)∧KR K (.rptr l (i.toNat*e))
  | .sub k j,.d (.int i)=>match s k with
   | some R=>match R.cells[j]? with
    | some (.tr (.sl n _))=>(0≤i∧i<n)∧KR K (.sptr k j (i.toNat*e))
    | _=>False
   | none=>False
  | _,_=>False:=nr rfl
theorem I4 (e:Nat) (x:O) (i:O):tI P σ ev (.idx e x i) T=gI P (at_ σ) ev σ.length (.idx e x i) (TG T σ):=nr rfl
theorem Jc (e n:Nat) (x:O) (i:O):gI P s ev k0 (.aix e n x i) K=match ev x,ev i with
  | .ptr k o,.d (.int i)=>(0≤i∧i<n)∧KR K (.ptr k (o+i.toNat*e))
  | .rptr l o,.d (.int i)=>(0≤i∧i<n)∧KR K (.rptr l (o+i.toNat*e))
  | _,_=>False:=nr rfl
theorem Ib (e n:Nat) (x:O) (i:O):tI P σ ev (.aix e n x i) T=gI P (at_ σ) ev σ.length (.aix e n x i) (TG T σ):=nr rfl
theorem J4 (n:Nat) (x:O) (i:O):gI P s ev k0 (.ixa n x i) K=match ev x,ev i with
  | .agg l,.d (.int i)=>match l[i.toNat]? with
   | some y=>(0≤i∧i<n)∧KR K y
   | none=>False
  | _,_=>False:=nr rfl
theorem I3 (n:Nat) (x:O) (i:O):tI P σ ev (.ixa n x i) T=gI P (at_ σ) ev σ.length (.ixa n x i) (TG T σ):=nr rfl
theorem J7 (i:Nat) (x:O):gI P s ev k0 (.ext i x) K=match ev x with
  | .tup l=>match l[i]? with
   | some y=>KR K y
   | none=>False
  | _=>False:=nr rfl
theorem I6 (i:Nat) (x:O):tI P σ ev (.ext i x) T=gI P (at_ σ) ev σ.length (.ext i x) (TG T σ):=nr rfl
theorem J0 (x:O):gI P s ev k0 (.nck x) K=match ev x with
  | .ptr k o=>KR K (.ptr k o)
  | .rptr l o=>KR K (.rptr l o)
  | .sptr k j o=>KR K (.sptr k j o)
  | _=>False:=nr rfl
theorem HZ (x:O):tI P σ ev (.nck x) T=gI P (at_ σ) ev σ.length (.nck x) (TG T σ):=nr rfl
theorem J2 (x:O):gI P s ev k0 (.len x) K=match lenA s (ev x)with
  | some n=>KR K (.d (.int n))
  | none=>False:=nr rfl
theorem I1 (x:O):tI P σ ev (.len x) T=gI P (at_ σ) ev σ.length (.len x) (TG T σ):=nr rfl
theorem J1 (m:Bool) (x:O) (y:O):gI P s ev k0 (.mnx m x y) K=match ev x,ev y with
  | .d (.int a),.d (.int b)=>KR K (.d (.int (if m=true then (if a<b then b else a) else (if b<a then b else a))))
  | _,_=>False:=nr rfl
theorem I0 (m:Bool) (x:O) (y:O):tI P σ ev (.mnx m x y) T=gI P (at_ σ) ev σ.length (.mnx m x y) (TG T σ):=nr rfl
theorem Ia (e bytes:Nat) (z:List AV) (s' x:O):tI P σ ev (.app e bytes z s' x) T=match ev s' with
  | .nil=>match lenA (at_ σ) (ev x)with
   | some m=>match srcA (at_ σ) (m*e) (ev x)with
    | some l=>bytes*m≤140737488355328∧T .no (.own σ.length 0 m) (σ++[some ⟨e,true,l⟩])
    | none=>False
   | none=>False
  | .own k off n=>match at_ σ k,lenA (at_ σ) (ev x)with
   | some R,some m=>match srcA (at_ σ) (m*e) (ev x)with
    | some l=>R.g=true∧R.e=e∧off=0∧R.cells.length=n*e∧bytes*(n+m)≤140737488355328∧
      T (.one k) (.own k 0 (n+m)) ((σ.map (Option.map fun R=>{ R with cells:=rnL (fg k) R.cells })).set k (some ⟨e,true,rnL (fg k) R.cells++rnL (fg k) l⟩))
    | none=>False
   | _,_=>False
  | _=>False:=by
 cases h:ev s'<;>simp only[tI,gI,h]<;>rfl
theorem Jy (n:Nat) (a x:O):tI P σ ev (.st n a x) T=match ev a with
  | .ptr k off=>match at_ σ k with
   | some R=>match lQ (ev x)with
    | some l=>l.length=n∧l.all okC=true∧off+n≤R.cells.length∧(((R.cells.drop off).take n).all trB)=true∧T .no .und (σ.set k (some { R with cells:=R.cells.take off++l++R.cells.drop (off+n) }))
    | none=>False
   | none=>False
  | _=>False:=nr rfl
theorem aV {f:FuncId} {args:List O} {ds:List AV} {res:AV} {σ1:Sto} (hd:Does P f ds [] res σ1) (he:expL (at_ σ) (args.map ev)=some ds)
  (hp:(df (args.map ev)||(scal res&&iL σ1))=true) (hk:T .no (rn (sh σ.length) res) (σ++shS σ.length σ1)):tI P σ ev (.call f args) T:=.inl <| .inl ⟨ds,res,σ1,he,hd,hp,hk⟩
theorem dP {f:FuncId} {args:List O} {ds:List AV} {res:AV} {σ1:Sto} (hd:Does P f ds [] res σ1) (he:expL s (args.map ev)=some ds)
  (hp:(df (args.map ev)||(scal res&&iL σ1))=true) (hk:K (rn (sh k0) res) (shS k0 σ1)):gI P s ev k0 (.call f args) K:=.inl ⟨ds,res,σ1,he,hd,hp,hk⟩
theorem ER (M:List Nat) {f:FuncId} {args:List O} {ds:List AV} {res:AV} {σv:Sto} (hd:Does P f ds σv res σv) (h0:M.Nodup) (he:rwL s M (args.map ev)=some ds) (h1:M.map s=σv) (h2:vwOk σv=true)
  (h3:(M.all (idsL (args.map ev)).contains)=true) (h4:scal res=true) (hk:K (rn (fun i=>M[i]?) res) []):gI P s ev k0 (.call f args) K:=.inr ⟨M,σv,ds,res,h0,he,h1,h2,h3,hd,h4,hk⟩
theorem eD (M:List Nat) (fz:Bool) {f:FuncId} {args:List O} {ds:List AV} {res:AV} {σ1:Sto} (hd:Does P f ds (rwS σ M) res σ1) (h0:M.Nodup) (he:rwL (at_ σ) M (args.map ev)=some ds) (h1:rwIn σ M=true)
  (h2:sa σ σ1 M 0=true) (h3:mE (σ1.drop M.length)=true) (h4:scal res=true)
  (hk:T .no (rn (rwN M fz σ.length) res) (fA σ1 fz M 0 σ++σ1.drop M.length)):tI P σ ev (.call f args) T:=.inr (.inl ⟨M,fz,ds,res,σ1,h0,he,h1,hd,h2,h3,h4,hk⟩)
theorem an (M:List Nat) (gv:List Nat) (fz:Bool) {f:FuncId} {args:List O} {ds:List AV} {res:AV} {σ1:Sto} (h0:M.Nodup) (he:rnL (fun i=>aM i M) (args.map ev)=ds) (σ0:Sto) (hi:cgIn σ M gv=σ0) (hd:Does P f ds σ0 res σ1)
  (h1:cgOk σ σ1 gv M 0=true) (hk:T (.call gv M) (rn (cgNu M gv fz σ.length) res) (cgGo σ1 M gv fz σ.length 0 σ++oQ σ1 M gv fz σ.length)):tI P σ ev (.call f args) T:=
 .inr (.inr ⟨M,gv,fz,ds,res,σ1,h0,he,hi ▸ hd,h1,hk⟩)
end
end Go.Lift
namespace Go.Lift
open Go.RowKit
theorem Does.of_calls {P:Program} {f:FuncId} {args:List AV} {res:AV} {v:Value} (hv:∀ w γ φ s,Rel w γ φ s res v)
  (h:∀ w γ φ vals,RelL w γ φ (at_ []) args vals→Calls P f vals.toArray w fun e w'=>e=.returned v∧Below w.heap.size w w'):Does P f args [] res []:=by
 intro γ φ w vals hS hr
 refine(h w γ φ vals hr).mono fun e w' hq=> ?_
 obtain⟨rfl,hb⟩:=hq
 refine⟨v,γ,φ,rfl,⟨hb.os,hb.tape,hb.output,hb.size,fun b hb' _=>⟨hb.block b hb',rfl⟩,fun b cur T f e=>⟨cur, ?_,rfl⟩⟩,fun k R e=> ?_,⟨fun b k p e=>Nat.lt_of_lt_of_le (hS.bound b k p e) hb.size,fun k R e=> ?_,fun b l hl=>by
  obtain⟨h1,cur,T,f,h2,h3⟩:=hS.adm b l hl
  exact⟨h1,cur,T,f,h2,(hb.block b (Array.getElem?_eq_some_iff.1 h3).1).trans h3⟩⟩,hv _ _ _ _⟩
 ·exact(hb.block b (Array.getElem?_eq_some_iff.1 e).1).trans e
 ·simp [at_]at e
 ·simp [at_]at e
theorem Does.callsT {P:Program} {f:FuncId} {args:List AV} {x:Bool} (h:Does P f args [] (.d (.bool x)) []) (w:World) (vals:List Value)
  (hA:∀ b l,(b,l)∈rl→∃ cur T f,cur.toList=l∧w.heap[b]? =some (.cells cur T f)) (hr:RelL w (fun b=>if b<w.heap.size then .im else .off) id (at_ []) args vals):Calls P f vals.toArray w fun e w'=>e=.returned (.bool x)∧Below w.heap.size w w':=by
 refine(h _ id w vals ⟨fun b k p e=> ?_,fun k R e=>by simp [at_]at e,fun b l hb=>by
  obtain⟨cur,T,f,h2,h3⟩:=hA b l hb
  exact⟨if_pos (Array.getElem?_eq_some_iff.1 h3).1,cur,T,f,h2,h3⟩⟩ hr).mono fun e w' hq=> ?_
 ·split at e<;>cases e
 ·obtain⟨v,γ',φ',rfl,hK,_,_,hv⟩:=hq
  simp only[Rel,Rd]at hv
  subst hv
  exact⟨rfl,hK.os,hK.tape,hK.output,hK.size,fun b hb=>(hK.blk b hb (fun k p=>by rw[if_pos hb];simp)).1⟩
theorem Does.calls {P:Program} {f:FuncId} {args:List AV} {x:Bool} (h:Does P f args [] (.d (.bool x)) []) (w:World) (vals:List Value)
  (hr:RelL w (fun b=>if b<w.heap.size then .im else .off) id (at_ []) args vals) (h0:rl=[]:=by rfl):Calls P f vals.toArray w fun e w'=>e=.returned (.bool x)∧Below w.heap.size w w':=
 h.callsT w vals (fun b l hb=>by rw[h0]at hb;cases hb) hr
theorem Wk.kept' {m0:Nat} (live:List Nat) (n:Nat) {e e':List AV} {σ σ':Sto} (hn:m0≤n) (h1:bu live n e=e') (h2:eJ n σ=σ'):Wk m0 e σ e' σ':=by
 subst h1 h2
 exact .keep live n e σ hn
def iv (xs:List Int):List AV:=xs.map fun x=>.d (.int x)
def dv (xs:List Int):List D:=xs.map .int
def ints (xs:List Int):D:=.sl xs.length (dv xs)
section
variable {xs ys : List Int}
theorem gR:(iv xs).length=xs.length:=by simp [iv]
theorem uU:(dv xs).length=xs.length:=by simp [dv]
theorem IS (i:Nat):(iv xs)[i]? =xs[i]?.map fun x=>.d (.int x):=by simp [iv]
theorem Jj (i:Nat):(dv xs)[i]? =xs[i]?.map .int:=by simp [dv]
theorem GX (n:Nat):(iv xs).take n=iv (xs.take n):=by simp [iv,List.map_take]
theorem GZ (n:Nat):(iv xs).drop n=iv (xs.drop n):=by simp [iv,List.map_drop]
theorem He (n:Nat):(dv xs).take n=dv (xs.take n):=by simp [dv,List.map_take]
theorem Hf (n:Nat):(dv xs).drop n=dv (xs.drop n):=by simp [dv,List.map_drop]
theorem IT:iv xs++iv ys=iv (xs++ys):=by simp [iv]
theorem Ji:(dv xs).map .d=iv xs:=by simp [iv,dv]
theorem A3 (f:Nat→Option Nat):rnL f (iv xs)=iv xs:=by
 induction xs with
 | nil=>rfl
 | cons x l ih=>simp only[iv,List.map_cons,rnL,rn]at ih ⊢;rw[ih]
theorem cJ:cY (iv xs)=some (dv xs):=by
 induction xs with
 | nil=>rfl
 | cons x l ih=>simp only[iv,dv,List.map_cons,cY,qM]at ih ⊢;rw[ih]
theorem Dd:fX (iv xs)=some (iv xs):=by
 induction xs with
 | nil=>rfl
 | cons x l ih=>simp only[iv,List.map_cons,fX]at ih ⊢;rw[ih];rfl
theorem HU:(iv xs).all trB=true:=by
 induction xs with
 | nil=>rfl
 | cons x l ih=>simp only[iv,List.map_cons,List.all_cons]at ih ⊢;rw[ih];rfl
theorem IE:(iv xs).all okC=true:=by
 induction xs with
 | nil=>rfl
 | cons x l ih=>simp only[iv,List.map_cons,List.all_cons]at ih ⊢;rw[ih];rfl
theorem F8:(iv xs).all zx=true:=by
 induction xs with
 | nil=>rfl
 | cons x l ih=>simp only[iv,List.map_cons,List.all_cons]at ih ⊢;rw[ih];rfl
theorem F7:(iv xs).all j9=true:=by
 induction xs with
 | nil=>rfl
 | cons x l ih=>simp only[iv,List.map_cons,List.all_cons]at ih ⊢;rw[ih];rfl
theorem DU:g6 (iv xs)=true:=by
 induction xs with
 | nil=>rfl
 | cons x l ih=>simp only[iv,List.map_cons,g6]at ih ⊢;rw[ih];rfl
theorem BM (n:Nat) (x:Int):bA n [.d (.int x)]=iv (List.replicate n x):=by
 unfold bA iv
 induction n with
 | zero=>rfl
 | succ n ih=>rw[List.replicate_succ,List.flatten_cons,ih,List.replicate_succ];rfl
theorem GY (x:Int):iv xs++[.d (.int x)]=iv (xs++[x]):=by simp [iv]
end
attribute [go_sem] Kj Km Kk Kl Je Kd Kg Ke Kf IU HR cd_t cd_f pk_t pk_f HQ FO FQ FR FS Dq FP Dp rn rnL sh shS A3 ints cvL cv List.length_map eq_self bne_self_eq_false decide_true
attribute [go_sem] decide_false List.map_nil List.map_cons fg List.replicate_zero fA rwN List.set_cons_succ List.set_cons_zero List.take_succ_cons List.take_zero List.take_nil
attribute [go_sem] List.drop_succ_cons List.drop_zero List.drop_nil List.all_cons List.all_nil okC trB IE HU Bool.and_true Bool.and_self Nat.le_refl K9 K6 kg K5 kt
attribute [go_sem] dk xb IA Iw Gq Gi E7 E4 Kh Jz H4 FW Ja I8 IV HW Jd Ic H5 FX Ki JA J3
attribute [go_sem] J8 I7 IY J9 nm J0 HZ uL Bool.true_xor Bool.false_xor Jc Ib J4 I3 I2 Jb I9 IZ HY H6 FY IW HX J6 I5 J5 I4 J7 I6 J2 I1
attribute [go_sem] J1 I0 Ia Jy Go.Lift.binA Go.Lift.put Go.Lift.dG Go.Lift.apV Go.Lift.apVL O.ev lQ lenA srcA fX optB m5 at_ List.getD_cons_succ
attribute [go_sem] List.getD_cons_zero List.append_nil List.nil_append List.cons_append List.getElem?_cons_succ List.getElem?_cons_zero Option.join_some Zl
attribute [go_sem] zn if_true if_false Bool.not_true Bool.not_false Bool.false_eq_true Bool.true_eq_false Int.toNat_natCast Int.toNat_zero Nat.mul_one Nat.zero_add
attribute [go_sem] Nat.add_zero List.getElem?_map Option.map_some decide_eq_true_eq true_and and_true Int.natCast_nonneg Jt gR IS uU Jj GX GZ He
attribute [go_sem] Hf IT GY Ji Dd cJ BM List.map_append idsN idsA idsL List.filter_cons List.filter_nil nrmR aM Nat.lt_irrefl
attribute [go_sem] Nat.not_lt_zero Nat.zero_le eJ expL expA exp1 expC zM lO List.isEmpty_cons List.take_length df plain scal g6 iL DU Bool.true_and Bool.or_true Bool.true_or
attribute [go_sem] false_implies true_implies Bool.false_or Bool.or_self rwL rwA rw1 rwC rwIn sa mE F8 F7 BEq.rfl beq_self_eq_true and_self
section
variable {P : Program} {s : St} {σ : Sto} {ev : O → AV} {k0 : Nat}
theorem zC {f:FuncId} {args:List O} {ds:List AV} {res:AV} {σ1:Sto} {T:Fg→AV→Sto→Prop} (hd:Does P f ds [] res σ1) (hk:T .no (rn (sh σ.length) res) (σ++shS σ.length σ1)) (he:expL (at_ σ) (args.map ev)=some ds:=by (simp only[go_sem,seval,reduceCtorEq];done))
 (hp:(df (args.map ev)||(scal res&&iL σ1))=true:=by first | rfl | (simp only[go_sem];done)):tI P σ ev (.call f args) T:=aV hd he hp hk
theorem zD {f:FuncId} {args:List O} {ds:List AV} {res:AV} {σ1:Sto} {K:AV→Sto→Prop} (hd:Does P f ds [] res σ1) (hk:K (rn (sh k0) res) (shS k0 σ1)) (he:expL s (args.map ev)=some ds:=by (simp only[go_sem,seval,reduceCtorEq];done))
 (hp:(df (args.map ev)||(scal res&&iL σ1))=true:=by first | rfl | (simp only[go_sem];done)):gI P s ev k0 (.call f args) K:=dP hd he hp hk
end
end Go.Lift
