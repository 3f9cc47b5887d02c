/-
 LIFT: regions whose order is drawn up to an append. No condition.
-/
import Derived.Test.YtjfmckhbmdjnpaaGreatLiftE
import Derived.Test.YtjfmckhbmdjnpaaGreatLiftM
namespace Go.Lift
open Go.RowKit
def HL (i:Ins):Bool:=match i.op with
 | .app _ _ _ (.c _) _=>false
 | .app .. =>true
 | _=>false
def H3 (l:List Ins) (ms:List Nat) (n:Nat):Nat:=if (l.take (db ms n)).all yz then db ms n else ((l.findIdx? fun i=> !yz i).getD 0)
def kM (P:Program) (ops:List Oper) (draw:Bool):Option C:=
 match bj P ops ops with
 | none=>none
 | some l=>
  if draw&&(l.take (db (aK [] ops) ops.length)).any HL then
   let ms:=aK [] ops
   let m2:=((l.findIdx? fun i=> !yz i||HL i).getD 0)
   let F:=fset ops ms m2
   if da ops ms m2&&decide (m2≤ops.length)&&n6 ops ms F&&(List.range (ops.length-m2)).all (fun d=>qF ms F (m2+d))&&Region.seqB .any ops.toArray (ops.length-m2) m2 (cK ops.length m2)&&Region.noSelect ops.toArray then
    some (.draw (l.take m2) (l.drop m2)) else
   let m3:=H3 l ms ops.length
   let F3:=fset ops ms m3
   if da ops ms m3&&decide (m3≤ops.length)&&n6 ops ms F3&&(List.range (ops.length-m3)).all (fun d=>qF ms F3 (m3+d))&&Region.seqB .any ops.toArray (ops.length-m3) m3 (cK ops.length m3)&&Region.noSelect ops.toArray then
    some (.drawK ((l.take m3).zip (chks ops l m3)) (l.drop m3)) else none
  else oz P ops draw
def bM (P:Program):Code→Option C
 | .skip=>some .skip
 | .region _ ops draw=>kM P ops.toList draw
 | .seq a b=>match bM P a,bM P b with
  | some a,some b=>some (.seq a b)
  | _,_=>none
 | .cond c a b=>match cO c,bM P a,bM P b with
  | some c,some a,some b=>some (.cond c a b)
  | _,_,_=>none
 | .block id b=>(bM P b).map (.block id)
 | .loop b=>(bM P b).map .loop
 | .exit id=>some (.exit id)
 | .ret=>some .ret
 | _=>none
def Fz (P:Program) (fn:Func):Option Fun:=
 match fn.body with
 | some c=>match bM P c,cRVs P fn.results.toList with
  | some b,some r=>if fn.nfree=0 then some ⟨fn.params.size,fn.ntmps,b,r⟩ else none
  | _,_=>none
 | none=>none
section
variable {P : Program} {γe : Labels} {φ0 : Nat → Nat} {we : World} {σ0 : Sto}
theorem fo {id:Nat} {ops:Array Oper} {draw:Bool} {c:C} (hm:P.follows .mixedOrders=true) (hc:kM P ops.toList draw=some c) {K:Ex→List AV→Sto→Prop} {env:List AV} {σ:Sto} {a:Act} {w:World} {Q:Exit→Act→World→Prop}
  {m0:Nat} (h:wpC P m0 c K env σ) (hS:SR γe φ0 we σ0 env σ a w) (hQ:∀ env σ a w,K .normal env σ→SR γe φ0 we σ0 env σ a w→Q .normal a w) (hP:∀ c a dst v w,Q (.panic c) (Act.put a dst v) w→Q (.panic c) a w):(Code.region id ops draw).wp P Q a w:=by
 unfold kM at hc
 split at hc
 ·cases hc
 ·rename_i l hl
  split at hc
  ·rename_i hd
   simp only[Bool.and_eq_true]at hd
   obtain⟨rfl,_⟩:=hd
   simp only at hc
   split at hc
   ·rename_i hcond
    simp only[zj]at hc
    subst hc
    simp only[wpC]at h
    simp only[Bool.and_eq_true,decide_eq_true_eq]at hcond
    obtain⟨⟨⟨⟨⟨hpre,hmle⟩,hfo⟩,hful⟩,hseq⟩,hsel⟩:=hcond
    simp only[List.all_eq_true,List.mem_range]at hful
    exact yt hm hl hmle hpre hfo hful hseq hsel h hS hQ hP
   ·split at hc
    ·rename_i hcond
     simp only[zj]at hc
     subst hc
     simp only[wpC]at h
     simp only[Bool.and_eq_true,decide_eq_true_eq]at hcond
     obtain⟨⟨⟨⟨⟨hpre,hmle⟩,hfo⟩,hful⟩,hseq⟩,hsel⟩:=hcond
     simp only[List.all_eq_true,List.mem_range]at hful
     exact C6 hm hl hmle hpre hfo hful hseq hsel h hS hQ hP
    ·cases hc
  ·exact ll hm hc h hS hQ hP
theorem qR {ops:List Oper} {draw:Bool} {c:C} (h:kM P ops draw=some c):(∃ l,c=.reg l)∨(∃ p t,c=.draw p t)∨∃ p t,c=.drawK p t:=by
 unfold kM at h
 split at h
 ·cases h
 ·split at h
  ·simp only at h
   split at h
   ·simp only[zj]at h
    exact .inr (.inl ⟨_,_,h.symm⟩)
   ·split at h
    ·simp only[zj]at h
     exact .inr (.inr ⟨_,_,h.symm⟩)
    ·cases h
  ·rcases sC h with h | h
   ·exact .inl h
   ·exact .inr (.inl h)
theorem cq {cd:Code} {c:C} (h:bM P cd=some c):match c with
  | .skip=>cd=.skip
  | .reg _=>∃ id ops draw,cd=.region id ops draw
  | .draw _ _=>∃ id ops draw,cd=.region id ops draw
  | .drawK _ _=>∃ id ops draw,cd=.region id ops draw
  | .drawW _ _ _ _=>False
  | .seq a b=>∃ x y,cd=.seq x y∧bM P x=some a∧bM P y=some b
  | .cond c a b=>∃ o x y,cd=.cond o x y∧cO o=some c∧bM P x=some a∧bM P y=some b
  | .block id b=>∃ x,cd=.block id x∧bM P x=some b
  | .loop b=>∃ x,cd=.loop x∧bM P x=some b
  | .exit id=>cd=.exit id
  | .ret=>cd=.ret
  | .gh _=>False:=by
 cases cd with
 | skip=>simp only[bM,zj]at h;subst h;trivial
 | region id ops draw=>
  simp only[bM]at h
  rcases qR h with ⟨l,rfl⟩ | ⟨p,t,rfl⟩ | ⟨p,t,rfl⟩<;>exact⟨_,_,_,rfl⟩
 | seq x y=>
  simp only[bM]at h
  split at h
  ·rename_i c1 c2 h1 h2
   simp only[zj]at h
   subst h
   exact⟨x,y,rfl,h1,h2⟩
  ·cases h
 | cond o x y=>
  simp only[bM]at h
  split at h
  ·rename_i o' c1 c2 ho h1 h2
   simp only[zj]at h
   subst h
   exact⟨o,x,y,rfl,ho,h1,h2⟩
  ·cases h
 | block id b=>
  simp only[bM,zm]at h
  obtain⟨c1,h1,rfl⟩:=h
  exact⟨b,rfl,h1⟩
 | loop b=>
  simp only[bM,zm]at h
  obtain⟨c1,h1,rfl⟩:=h
  exact⟨b,rfl,h1⟩
 | exit id=>simp only[bM,zj]at h;subst h;trivial
 | ret=>simp only[bM,zj]at h;subst h;trivial
 | _=>simp [bM]at h
theorem zR (hm:P.follows .mixedOrders=true):∀ (c:C) (cd:Code),bM P cd=some c.erase→∀ {K:Ex→List AV→Sto→Prop} {env:List AV} {σ:Sto} {a:Act} {w:World} {Q:Exit→Act→World→Prop},wpC P σ0.length c K env σ→SR γe φ0 we σ0 env σ a w→
  (∀ x env σ a w,K x env σ→SR γe φ0 we σ0 env σ a w→Q x.to a w)→(∀ c a dst v w,Q (.panic c) (Act.put a dst v) w→Q (.panic c) a w)→cd.wp P Q a w:=by
 intro c
 induction c with
 | skip=>
  intro cd hc K env σ a w Q h hS hQ hP
  have hi:cd=.skip:=cq hc
  subst hi
  exact wp_skip (hQ .normal _ _ _ _ h hS)
 | reg l=>
  intro cd hc K env σ a w Q h hS hQ hP
  obtain⟨id,ops,draw,rfl⟩:=cq hc
  simp only[bM]at hc
  exact fo hm hc h hS (fun env σ a w hk hs=>hQ .normal env σ a w hk hs) hP
 | draw p t=>
  intro cd hc K env σ a w Q h hS hQ hP
  obtain⟨id,ops,draw,rfl⟩:=cq hc
  simp only[bM]at hc
  exact fo hm hc h hS (fun env σ a w hk hs=>hQ .normal env σ a w hk hs) hP
 | drawK p t=>
  intro cd hc K env σ a w Q h hS hQ hP
  obtain⟨id,ops,draw,rfl⟩:=cq hc
  simp only[bM]at hc
  exact fo hm hc h hS (fun env σ a w hk hs=>hQ .normal env σ a w hk hs) hP
 | drawW p q m t=>
  intro cd hc K env σ a w Q h hS hQ hP
  exact(cq hc).elim
 | seq x y ihx ihy=>
  intro cd hc K env σ a w Q h hS hQ hP
  obtain⟨c1,c2,rfl,h1,h2⟩:=cq hc
  simp only[wpC]at h
  refine wp_seq (ihx c1 h1 h hS (fun x env σ a w hk hs=> ?_) hP)
  cases x with
  | normal=>exact ihy c2 h2 hk hs hQ hP
  | exit id=>exact hQ (.exit id) _ _ _ _ hk hs
  | ret=>exact hQ .ret _ _ _ _ hk hs
 | cond o x y ihx ihy=>
  intro cd hc K env σ a w Q h hS hQ hP
  obtain⟨o',c1,c2,rfl,ho,h1,h2⟩:=cq hc
  simp only[wpC]at h
  split at h
  ·rename_i t ht
   have hS0:=hS
   obtain⟨γ,φ,hK,hSim,hE,hd,hfix⟩:=hS0
   have hr:=xH hE ho
   rw[ht]at hr
   have hv:=de hr
   refine wp_cond hv ?_
   cases t with
   | true=>simp only[if_true]at h ⊢;exact ihx c1 h1 h hS hQ hP
   | false=>simp only[Bool.false_eq_true,if_false]at h ⊢;exact ihy c2 h2 h hS hQ hP
  ·exact h.elim
 | block id b ih=>
  intro cd hc K env σ a w Q h hS hQ hP
  obtain⟨c1,rfl,h1⟩:=cq hc
  simp only[wpC]at h
  refine wp_block (ih c1 h1 h hS (fun x env σ a w hk hs=> ?_) hP)
  cases x with
  | normal=>exact hQ .normal _ _ _ _ hk hs
  | exit i=>
   simp only[Ex.to,Exit.inBlock]
   simp only at hk
   split
   ·rename_i e
    rw[if_pos e]at hk
    exact hQ .normal _ _ _ _ hk hs
   ·rename_i e
    rw[if_neg e]at hk
    exact hQ (.exit i) _ _ _ _ hk hs
  | ret=>exact hQ .ret _ _ _ _ hk hs
 | loop b ih=>
  intro cd hc K env σ a w Q h hS hQ hP
  obtain⟨c1,rfl,h1⟩:=cq hc
  simp only[wpC]at h
  obtain⟨J,⟨m,e',σ',hw,hJ⟩,hround⟩:=h
  have key:∀ a w,∃ μ:Nat,(∃ n e σ,J n e σ∧SR γe φ0 we σ0 e σ a w)→(∃ e σ,J μ e σ∧SR γe φ0 we σ0 e σ a w)∧∀ k,(∃ e σ,J k e σ∧SR γe φ0 we σ0 e σ a w)→μ≤k:=by
   intro a w
   by_cases hx:∃ n e σ,J n e σ∧SR γe φ0 we σ0 e σ a w
   ·obtain⟨μ,h1,h2⟩:=lq (p:=fun n=>∃ e σ,J n e σ∧SR γe φ0 we σ0 e σ a w) hx
    exact⟨μ,fun _=>⟨h1,h2⟩⟩
   ·exact⟨0,fun h=>absurd h hx⟩
  refine wp_loop (fun a w=>∃ n e σ,J n e σ∧SR γe φ0 we σ0 e σ a w) (fun a w=>Classical.choose (key a w)) ⟨m,e',σ',hJ,cg hw hS⟩ fun a w hI=> ?_
  obtain⟨⟨e,σ,hJ,hs⟩,hmin⟩:=Classical.choose_spec (key a w) hI
  refine ih c1 h1 (hround _ e σ hJ) hs (fun x env σ a' w' hk hs'=> ?_) hP
  cases x with
  | normal=>
   obtain⟨m',e2,σ2,hlt,hw2,hJ2⟩:=hk
   have hI':∃ n e σ,J n e σ∧SR γe φ0 we σ0 e σ a' w':=⟨m',e2,σ2,hJ2,cg hw2 hs'⟩
   refine⟨hI', ?_⟩
   have:=(Classical.choose_spec (key a' w') hI').2 m' ⟨e2,σ2,hJ2,cg hw2 hs'⟩
   exact Nat.lt_of_le_of_lt this hlt
  | exit id=>exact hQ (.exit id) _ _ _ _ hk hs'
  | ret=>exact hQ .ret _ _ _ _ hk hs'
 | exit id=>
  intro cd hc K env σ a w Q h hS hQ hP
  have hi:cd=.exit id:=cq hc
  subst hi
  exact wp_exit (hQ (.exit id) _ _ _ _ h hS)
 | ret=>
  intro cd hc K env σ a w Q h hS hQ hP
  have hi:cd=.ret:=cq hc
  subst hi
  exact wp_ret (hQ .ret _ _ _ _ h hS)
 | gh x ih=>
  intro cd hc K env σ a w Q h hS hQ hP
  simp only[wpC]at h
  refine ih cd hc h hS (fun x env σ a w hk hs=> ?_) hP
  cases x with
  | normal=>
   obtain⟨e',σ',hw,hk⟩:=hk
   exact hQ .normal _ _ _ _ hk (cg hw hs)
  | exit id=>exact hQ (.exit id) _ _ _ _ hk hs
  | ret=>exact hQ .ret _ _ _ _ hk hs
end
theorem spec_ofK {P:Program} {f:FuncId} {fn:Func} {F:Fun} {args:List AV} {σ0:Sto} {res:AV} {σ1:Sto} (hm:P.follows .mixedOrders=true) (hf:P.funcs[f]? =some fn) (hF:Fz P fn=some F.erase) (h:FnOk P F args σ0 res σ1):Does P f args σ0 res σ1:=by
 intro γ φ w vals hS hargs
 unfold Fz at hF
 split at hF
 ·rename_i cd hb
  split at hF
  ·rename_i b rs hcc hrs
   split at hF
   ·obtain⟨np,nt,bd,rs'⟩:=F
    simp only[Fun.erase,zj,Fun.mk.injEq]at hF
    obtain⟨rfl,rfl,rfl,rfl⟩:=hF
    obtain⟨hlen,hwp⟩:=h
    simp only at hlen hwp
    have hal:=hargs.len
    refine calls_of_wp hf hb (zR (γe:=γ) (φ0:=φ) (we:=w) (σ0:=σ0) hm bd cd hcc hwp ⟨γ,φ,Kst.refl _ _,hS, ?_,rfl,fun k R hk hg=>⟨Stay.refl,R,hk,hg⟩⟩ (fun x env σ a w' hpost hSR=> ?_) (fun c a dst v w h=>lS h))
    ·have he:(vals.toArray++Array.replicate (fn.ntmps-vals.toArray.size) undef).toList=vals++List.replicate (fn.ntmps-args.length) undef:=by simp [hal]
     show RelL w γ φ (at_ σ0) _ (vals.toArray++Array.replicate (fn.ntmps-vals.toArray.size) undef).toList
     rw[he]
     refine hargs.append ?_
     generalize fn.ntmps-args.length=n
     induction n with
     | zero=>simp [RelL]
     | succ n ih=>simp only[List.replicate_succ,RelL];exact⟨_,_,rfl,by simp [Rel],ih⟩
    ·obtain⟨hx,env',σ',hwk,hge,r,ids,hr,hnd,hids,hnrm⟩:=hpost
     replace hSR:=cg hwk hSR
     clear hwk
     revert env' σ'
     intro env σ hge hr hnrm hSR
     obtain⟨γ1,φ1,hK1,hS1,hE1,hd1,hfix1⟩:=hSR
     obtain⟨v,hv,hrel⟩:=mI (fn:=fn) hS1 hE1 hrs hr
     unfold nrm at hnrm
     simp only[Prod.mk.injEq]at hnrm
     obtain⟨hres,hσ1⟩:=hnrm
     let φ2:Nat→Nat:=fun k'=>if k'<σ0.length then φ1 k' else φ1 (ids.getD (k'-σ0.length) 0)
     have hat1:∀ k',at_ σ1 k'=(if k'<σ0.length then at_ σ k' else ((ids[k'-σ0.length]?).bind (at_ σ))).map (fun R=>{ R with cells:=rnL (nrmR σ0.length ids) R.cells }):=by
      intro k'
      have htl:(σ.take σ0.length).length=σ0.length:=by simp;omega
      rw[← hσ1]
      simp only[at_,List.getElem?_map,List.getElem?_append,htl]
      by_cases hk:k'<σ0.length
      ·rw[if_pos hk,if_pos hk,List.getElem?_take,if_pos hk]
       cases σ[k']? with
       | none=>rfl
       | some x=>cases x<;>rfl
      ·rw[if_neg hk,if_neg hk]
       cases hi:ids[k'-σ0.length]? with
       | none=>simp
       | some i=>
        simp only[hi,Option.map_some,Option.bind_some,at_]
        cases σ[i]? with
        | none=>rfl
        | some x=>cases x<;>rfl
     have hRen:Ren (nrmR σ0.length ids) φ1 (at_ σ) φ2 (at_ σ1):=by
      refine⟨fun k k' R hk hR=> ?_,fun k' R' hR'=> ?_,fun k1 k2 k' h1 h2=> ?_⟩
      ·unfold nrmR at hk
       split at hk
       ·rename_i hlt
        simp only[zj]at hk
        subst hk
        exact⟨by simp [φ2,hlt],by rw[hat1,if_pos hlt,hR];rfl⟩
       ·simp only[zm]at hk
        obtain⟨j,hj,rfl⟩:=hk
        have hg:=aC hj
        have hnl:¬ j+σ0.length<σ0.length:=by omega
        refine⟨by simp [φ2,hnl,hg], ?_⟩
        rw[hat1,if_neg hnl,show j+σ0.length-σ0.length=j by omega,hg]
        simp [hR]
      ·rw[hat1]at hR'
       simp only[zm]at hR'
       obtain⟨R,hR,_⟩:=hR'
       split at hR
       ·rename_i hlt
        exact⟨k',R,by simp [nrmR,hlt],hR⟩
       ·rename_i hlt
        simp only[Option.bind_eq_some_iff]at hR
        obtain⟨i,hi,hR⟩:=hR
        have hil:¬ i<σ0.length:=by have:=hids i (List.mem_of_getElem? hi);omega
        refine⟨i,R, ?_,hR⟩
        unfold nrmR
        rw[if_neg hil,cj hnd hi]
        simp
        omega
      ·unfold nrmR at h1 h2
       split at h1<;>split at h2
       ·simp only[zj]at h1 h2;omega
       ·simp only[zj,zm]at h1 h2
        obtain⟨j,_,h2⟩:=h2
        omega
       ·simp only[zj,zm]at h1 h2
        obtain⟨j,_,h1⟩:=h1
        omega
       ·simp only[zm]at h1 h2
        obtain⟨j1,h3,h4⟩:=h1
        obtain⟨j2,h5,h6⟩:=h2
        have:j1=j2:=by omega
        subst this
        have e1:=aC h3
        have e2:=aC h5
        rw[e1]at e2
        simpa using e2
     obtain⟨hK2,hS2⟩:=hS1.rn hRen
     have hrel2:=Rel.rn hRen r v hrel
     rw[hres]at hrel2
     have hgoal:∃ v',Ending.returned v=.returned v'∧∃ γ' φ',Kst γ w γ' w'∧(∀ k R,at_ σ0 k=some R→R.g=false→Stay γ φ γ' φ' k)∧Sim γ' φ' (at_ σ1) w'∧Rel w' γ' φ' (at_ σ1) res v':=by
      refine⟨v,rfl,_,φ2,hK1.trans hK2,fun k R hk hg=> ?_,hS2,hrel2⟩
      have hlt:k<σ0.length:=by
       by_cases h:k<σ0.length
       ·exact h
       ·simp [at_,List.getElem?_eq_none (Nat.le_of_not_lt h)]at hk
      have h1:=(hfix1 k R hk hg).1
      refine⟨by simp only[φ2,if_pos hlt];exact h1.1,fun hl=> ?_⟩
      have h2:=h1.2 hl
      simp [h2,Lab.rn,nrmR,hlt]
     obtain⟨v',e,γ',φ',g1,g2,g3,g4⟩:=hgoal
     cases x with
     | normal=>exact⟨hd1,v,hv,v',γ',φ',e,g1,g2,g3,g4⟩
     | ret=>exact⟨hd1,v,hv,v',γ',φ',e,g1,g2,g3,g4⟩
     | exit id=>exact hx.elim
   ·cases hF
  ·cases hF
 ·cases hF
#print axioms spec_ofK
end Go.Lift
