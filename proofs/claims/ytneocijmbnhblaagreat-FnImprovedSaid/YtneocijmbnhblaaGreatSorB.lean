/-
 The tree of an order, plain: the tensors that are there share out the leaves and the steps. No condition.
-/
import Derived.Test.YtneocijmbnhblaaGreatOrdF
import Derived.Test.YtneocijmbnhblaaGreatSemH
set_option linter.unusedSimpArgs false
set_option linter.unusedVariables false
namespace Go.Proofs.YtneocijmbnhblaaGreat
open Plain Go.Proofs.YtneocijmbnhblaaGreat.Sem
def lvs (m:Nat) (F:List Int) (k:Nat):List Nat:=
 if h:stA F (k-m)<k∧stB F (k-m)<k∧m≤k then lvs m F (stA F (k-m))++lvs m F (stB F (k-m)) else [k]
termination_by k
decreasing_by all_goals omega
def nds (m:Nat) (F:List Int) (k:Nat):List Nat:=
 if h:stA F (k-m)<k∧stB F (k-m)<k∧m≤k then nds m F (stA F (k-m))++nds m F (stB F (k-m))++[k-m] else []
termination_by k
decreasing_by all_goals omega
section
variable {m : Nat} {F : List Int}
theorem dM {k:Nat} (h:k<m):lvs m F k=[k]:=by rw[lvs,dif_neg (by omega)]
theorem qx {k:Nat} (h:k<m):nds m F k=[]:=by rw[nds,dif_neg (by omega)]
theorem jU {j:Nat} (h1:stA F j<m+j) (h2:stB F j<m+j):lvs m F (m+j)=lvs m F (stA F j)++lvs m F (stB F j):=by
 rw[lvs,show m+j-m=j by omega,dif_pos (by omega)]
theorem qw {j:Nat} (h1:stA F j<m+j) (h2:stB F j<m+j):nds m F (m+j)=nds m F (stA F j)++nds m F (stB F j)++[j]:=by
 rw[nds,show m+j-m=j by omega,dif_pos (by omega)]
end
section
variable {N : Net} {n : Nat} {F : List Int}
theorem tt {α:Type} (f:Nat→List α) (g:Nat→List α) (l:List Nat) (h:∀ i∈l,f i=g i):l.flatMap f=l.flatMap g:=by
 induction l with
 | nil=>rfl
 | cons x l ih=>rw[List.flatMap_cons,List.flatMap_cons,h x List.mem_cons_self,ih fun i hi=>h i (List.mem_cons_of_mem _ hi)]
theorem share (hok:am N n F=true):∀ q,q≤n→((ordS N F q).nums.flatMap (lvs N.ts.length F)).Perm (List.range N.ts.length)∧((ordS N F q).nums.flatMap (nds N.ts.length F)).Perm (List.range q)
 | 0,_=>by
  rw[show (ordS N F 0).nums=List.range N.ts.length from gf N.ts]
  constructor
  ·rw[tt _ (fun i=>[i]) _ fun i hi=>dM (List.mem_range.1 hi)]
   have:(List.range N.ts.length).flatMap (fun i=>[i])=List.range N.ts.length:=by simp
   rw[this]
  ·rw[tt _ (fun _=>[]) _ fun i hi=>qx (List.mem_range.1 hi)]
   simp
 | q+1,hq=>by
  obtain⟨h1,h2⟩:=share hok q (by omega)
  have hs:=cl hok (show q<n by omega)
  have ho:=cQ hok q (by omega)
  have hab:=hs.at ho
  have hne:stA F q≠stB F q:=by have:=hs.lt;omega
  have hp:=nq (bR (ordS N F q)) hs.ma hs.mb hne
  have hn:(ordS N F (q+1)).nums=(ordS N F q).nums.filter (Osd.off (stA F q) (stB F q))++[N.ts.length+q]:=by rw[hs.nx];exact d8 ho.ok
  have e1:=(hp.flatMap_right (lvs N.ts.length F)).symm.trans h1
  have e2:=(hp.flatMap_right (nds N.ts.length F)).symm.trans h2
  rw[List.flatMap_cons,List.flatMap_cons]at e1 e2
  rw[hn,List.flatMap_append,List.flatMap_append]
  simp only[List.flatMap_cons,List.flatMap_nil,List.append_nil]
  rw[jU hab.1 hab.2,qw hab.1 hab.2]
  refine⟨?_, ?_⟩
  ·refine List.Perm.trans ?_ e1
   rw[← List.append_assoc (lvs N.ts.length F (stA F q))]
   exact List.perm_append_comm
  ·rw[List.range_succ, ← List.append_assoc]
   refine List.Perm.append_right _ (List.Perm.trans ?_ e2)
   rw[← List.append_assoc (nds N.ts.length F (stA F q))]
   exact List.perm_append_comm
end
section
variable {N : Net} {n : Nat} {F : List Int}
def lfL (N:Net) (l:Nat):List Int:=(N.ts.getD l ⟨[],[],[]⟩).labels
def LabS (N:Net) (v:Nat) (s:List Nat) (x:Int):Prop:=(∃ l∈s,x∈lfL N l)∧(v<N.ts.length∨x∈N.os∨∃ l,l<N.ts.length∧l∉s∧x∈lfL N l)
theorem jV (hok:am N n F=true) {q:Nat} (hq:q≤n) {i a:Nat} (hi:i∈(ordS N F q).nums) (ha:a∈(ordS N F q).nums) (hne:i≠a):∀ l∈lvs N.ts.length F i,l∉lvs N.ts.length F a:=fun l hl hl'=>by
 have h1:=(share hok q hq).1
 have hp:=nq (bR (ordS N F q)) hi ha hne
 have e1:=(hp.flatMap_right (lvs N.ts.length F)).symm.trans h1
 rw[List.flatMap_cons,List.flatMap_cons]at e1
 have hn:=e1.nodup_iff.2 List.nodup_range
 exact(List.nodup_append.1 hn).2.2 l hl l (List.mem_append_left _ hl') rfl
theorem qC (hok:am N n F=true) {q:Nat} (hq:q≤n) {i:Nat} (hi:i∈(ordS N F q).nums):∀ l∈lvs N.ts.length F i,l<N.ts.length:=fun l hl=>
 List.mem_range.1 ((share hok q hq).1.mem_iff.1 (List.mem_flatMap.2 ⟨i,hi,hl⟩))
theorem jd (hok:am N n F=true):∀ q,q≤n→∀ v,v<N.ts.length+q→∀ x,x∈(ordS N F q).lab v↔LabS N v (lvs N.ts.length F v) x
 | 0,_,v,hv,x=>by
  rw[show (ordS N F 0).lab v=lfL N v from qE (by omega),LabS,dM (by omega)]
  exact⟨fun h=>⟨⟨v,List.mem_singleton.2 rfl,h⟩,.inl (by omega)⟩,fun⟨⟨l,hl,h⟩,_⟩=>by rw[List.mem_singleton.1 hl]at h;exact h⟩
 | q+1,hq,v,hv,x=>by
  have ih:=jd hok q (by omega)
  have hs:=cl hok (show q<n by omega)
  have ho:=cQ hok q (by omega)
  have hab:=hs.at ho
  have hne:stA F q≠stB F q:=by have:=hs.lt;omega
  by_cases e:v<N.ts.length+q
  ·rw[hs.nx,jX ho.ok e]
   exact ih v e x
  ·obtain rfl:v=N.ts.length+q:=by omega
   have hlt:∀ i,i∈(ordS N F q).nums→i<N.ts.length+q:=fun i hi=>by have:=(em.1 hi).1;rw[ho.ok.n]at this;exact this
   have p1:∀ w,w<N.ts.length+q→x∈(ordS N F q).lab w→∃ l∈lvs N.ts.length F w,x∈lfL N l:=fun w hw h=>((ih w hw x).1 h).1
   have p2:∀ w,w<N.ts.length+q→(∃ l∈lvs N.ts.length F w,x∈lfL N l)→(x∈N.os∨∃ l,l<N.ts.length∧l∉lvs N.ts.length F w∧x∈lfL N l)→x∈(ordS N F q).lab w:=fun w hw h1 h2=>(ih w hw x).2 ⟨h1,.inr h2⟩
   rw[hs.nx,dU ho.ok,LabS,jU hab.1 hab.2,Osd.res,List.mem_filter,aY,Osd.keep,List.mem_append,List.mem_flatMap,bb]
   constructor
   ·rintro⟨h1,h2⟩
    refine⟨?_,.inr ?_⟩
    ·rcases h1 with h1 | h1
     ·obtain⟨l,hl,hx⟩:=p1 _ hab.1 h1
      exact⟨l,List.mem_append_left _ hl,hx⟩
     ·obtain⟨l,hl,hx⟩:=p1 _ hab.2 h1
      exact⟨l,List.mem_append_right _ hl,hx⟩
    ·rcases h2 with h2 | ⟨i,hi,h2⟩
     ·exact .inl h2
     ·obtain⟨hi,hoff⟩:=List.mem_filter.1 hi
      obtain⟨n1,n2⟩:=FJ hoff
      obtain⟨l,hl,hx⟩:=p1 i (hlt i hi) h2
      refine .inr ⟨l,qC hok (by omega) hi l hl, ?_,hx⟩
      rw[List.mem_append]
      rintro (h | h)
      ·exact jV hok (by omega) hi hs.ma n1 l hl h
      ·exact jV hok (by omega) hi hs.mb n2 l hl h
   ·rintro⟨⟨l,hl,hx⟩,h2⟩
    have h2:x∈N.os∨∃ l,l<N.ts.length∧l∉lvs N.ts.length F (stA F q)++lvs N.ts.length F (stB F q)∧x∈lfL N l:=h2.elim (fun h=>by omega) id
    have ha2:x∈N.os∨∃ l,l<N.ts.length∧l∉lvs N.ts.length F (stA F q)∧x∈lfL N l:=h2.imp id fun⟨l,h3,h4,h5⟩=>⟨l,h3,fun h=>h4 (List.mem_append_left _ h),h5⟩
    have hb2:x∈N.os∨∃ l,l<N.ts.length∧l∉lvs N.ts.length F (stB F q)∧x∈lfL N l:=h2.imp id fun⟨l,h3,h4,h5⟩=>⟨l,h3,fun h=>h4 (List.mem_append_right _ h),h5⟩
    refine⟨?_, ?_⟩
    ·rcases List.mem_append.1 hl with h | h
     ·exact .inl (p2 _ hab.1 ⟨l,h,hx⟩ ha2)
     ·exact .inr (p2 _ hab.2 ⟨l,h,hx⟩ hb2)
    ·rcases h2 with h2 | ⟨l',h3,h4,h5⟩
     ·exact .inl h2
     ·have hm:=(share hok q (by omega)).1.mem_iff.2 (List.mem_range.2 h3)
      obtain⟨i,hi,hil⟩:=List.mem_flatMap.1 hm
      have n1:i≠stA F q:=fun e=>h4 (List.mem_append_left _ (by rw[← e];exact hil))
      have n2:i≠stB F q:=fun e=>h4 (List.mem_append_right _ (by rw[← e];exact hil))
      refine .inr ⟨i,List.mem_filter.2 ⟨hi,by simp [Osd.off,n1,n2]⟩,p2 i (hlt i hi) ⟨l',hil,h5⟩ (.inr ⟨l, ?_, ?_,hx⟩)⟩
      ·rcases List.mem_append.1 hl with h | h
       ·exact qC hok (by omega) hs.ma l h
       ·exact qC hok (by omega) hs.mb l h
      ·rcases List.mem_append.1 hl with h | h
       ·exact jV hok (by omega) hs.ma hi (Ne.symm n1) l h
       ·exact jV hok (by omega) hs.mb hi (Ne.symm n2) l h
end
section
variable {N : Net} {n : Nat} {F G : List Int}
def StepsI (G:List Int) (out:List (Nat × Nat)):Prop:=∀ j (hj:j<out.length),G.getD (j*2) 0=out[j].1∧G.getD (j*2+1) 0=out[j].2
theorem StepsI.pre {out l:List (Nat × Nat)} (h:StepsI G (out++l)):StepsI G out:=fun j hj=>by
 have:=h j (by rw[List.length_append];omega)
 rwa [List.getElem_append_left hj]at this
theorem FL (hok:am N n F=true) {j:Nat} (hj:j<n):(∀ l∈lvs N.ts.length F (stA F j),l∉lvs N.ts.length F (stB F j))∧(∀ l∈lvs N.ts.length F (stA F j),l<N.ts.length)∧∀ l∈lvs N.ts.length F (stB F j),l<N.ts.length:=by
 have hs:=cl hok hj
 have hne:stA F j≠stB F j:=by have:=hs.lt;omega
 exact⟨jV hok (by omega) hs.ma hs.mb hne,qC hok (by omega) hs.ma,qC hok (by omega) hs.mb⟩
theorem wU (hok:am N n F=true):∀ k,k<N.ts.length+n→∀ out,StepsI G (walk N.ts.length F k out).1→(bm N.os G (aq N.ts) out.length).2=true→(∀ l∈lvs N.ts.length F k,l∈(ordS N G out.length).nums)→
  (bm N.os G (aq N.ts) (walk N.ts.length F k out).1.length).2=true∧∀ i,i∈(ordS N G (walk N.ts.length F k out).1.length).nums↔(i∈(ordS N G out.length).nums∧i∉lvs N.ts.length F k)∨i=(walk N.ts.length F k out).2:=by
 have hnet:=(ao.1 hok).1
 have hst:=stOk hok
 have hnum:∀ q,(bm N.os G (aq N.ts) q).2=true→∀ i,i∈(ordS N G q).nums→i<N.ts.length+q:=fun q h i hi=>by
  have h1:=iF (ge (ct hnet)) q h
  have h2:=(em.1 hi).1
  have h3:=h1.n
  unfold ordS at h2
  omega
 intro k
 induction k using Nat.strongRecOn with
 | _ k ih=>
  intro hk out hG hV hL
  rcases Nat.lt_or_ge k N.ts.length with hkm | hkm
  ·rw[dO hkm]
   refine⟨hV,fun i=> ?_⟩
   rw[dM hkm]at hL ⊢
   have hkn:=hL k (List.mem_singleton.2 rfl)
   rw[List.mem_singleton]
   constructor
   ·intro hi
    by_cases e:i=k
    ·exact .inr e
    ·exact .inl ⟨hi,e⟩
   ·rintro (h | rfl)
    ·exact h.1
    ·exact hkn
  ·obtain⟨j,rfl⟩:∃ j,k=N.ts.length+j:=⟨k-N.ts.length,by omega⟩
   have hj:j<n:=by omega
   have hs:=hst j hj
   obtain⟨d1,d2,d3⟩:=FL hok hj
   obtain⟨⟨l1,e1,n1⟩,f1,g1⟩:=gz hst (stA F j) (by omega) out
   obtain⟨⟨l2,e2,n2⟩,f2,g2⟩:=gz hst (stB F j) (by omega) (walk N.ts.length F (stA F j) out).1
   have ia:=ih (stA F j) hs.1 (by omega) out
   have ib:=ih (stB F j) hs.2.1 (by omega) (walk N.ts.length F (stA F j) out).1
   rw[jU hs.1 hs.2.1]at hL ⊢
   rw[f7 hst hj]at hG ⊢
   simp only at hG ⊢
   generalize hA:walk N.ts.length F (stA F j) out=A at*
   obtain⟨o1,x⟩:=A
   simp only at*
   generalize hB:walk N.ts.length F (stB F j) o1=B at*
   obtain⟨o2,y⟩:=B
   simp only at*
   subst e1
   subst e2
   have hG2:StepsI G (out++l1++l2):=hG.pre
   obtain⟨va,na⟩:=ia hG2.pre hV fun l hl=>hL l (List.mem_append_left _ hl)
   obtain⟨vb,nb⟩:=ib hG2 va fun l hl=>(na l).2 (.inl ⟨hL l (List.mem_append_right _ hl),fun h=>d1 l h hl⟩)
   have b0:=hnum _ hV
   have b1:=hnum _ va
   have b2:=hnum _ vb
   have hx1:x∈(ordS N G (out++l1).length).nums:=(na x).2 (.inr rfl)
   have hxB:x∉lvs N.ts.length F (stB F j):=fun h=>by
    rcases Nat.lt_or_ge (stA F j) N.ts.length with h1 | h1
    ·have:=f1 h1
     simp only[Prod.mk.injEq]at this
     rw[this.2]at h
     refine d1 _ ?_ h
     rw[dM h1]
     exact List.mem_singleton.2 rfl
    ·have h2:=g1 h1
     have h3:=d3 x h
     have h4:=List.length_pos_iff.2 (n1 h1)
     simp only[List.length_append]at h2
     omega
   have hx2:x∈(ordS N G (out++l1++l2).length).nums:=(nb x).2 (.inl ⟨hx1,hxB⟩)
   have hy2:y∈(ordS N G (out++l1++l2).length).nums:=(nb y).2 (.inr rfl)
   have hxy:x≠y:=fun e=>by
    rcases Nat.lt_or_ge (stB F j) N.ts.length with h1 | h1
    ·have:=f2 h1
     simp only[Prod.mk.injEq]at this
     refine hxB ?_
     rw[e,this.2,dM h1]
     exact List.mem_singleton.2 rfl
    ·have h2:=g2 h1
     have h4:=List.length_pos_iff.2 (n2 h1)
     have h5:=b1 x hx1
     simp only[List.length_append]at h2 h5
     omega
   have hlast:=hG (out++l1++l2).length (by simp)
   have hget:((out++l1++l2)++[(min x y,max x y)])[(out++l1++l2).length]'(by simp)=(min x y,max x y):=by simp
   rw[hget]at hlast
   simp only at hlast
   have hmm:(min x y=x∧max x y=y)∨(min x y=y∧max x y=x):=by omega
   have hfol:dD (bm N.os G (aq N.ts) (out++l1++l2).length).1 (G.getD ((out++l1++l2).length*2) 0) (G.getD ((out++l1++l2).length*2+1) 0)=true:=by
    rw[hlast.1,hlast.2]
    refine decide_eq_true ⟨eo.2 ⟨min x y, ?_,rfl⟩,eo.2 ⟨max x y, ?_,rfl⟩,by omega⟩
    ·rcases hmm with ⟨h,_⟩ | ⟨h,_⟩<;>rw[h]
     ·exact hx2
     ·exact hy2
    ·rcases hmm with ⟨_,h⟩ | ⟨_,h⟩<;>rw[h]
     ·exact hy2
     ·exact hx2
   have hyes:=iE vb hfol
   have hlen:((out++l1++l2)++[(min x y,max x y)]).length=(out++l1++l2).length+1:=by rw[List.length_append,List.length_singleton]
   rw[hlen,hyes]
   refine⟨rfl,fun i=> ?_⟩
   have hos:OsOk (bm N.os G (aq N.ts) (out++l1++l2).length).1 (N.ts.length+(out++l1++l2).length):=iF (ge (ct hnet)) _ vb
   have hst2:(ordS N G ((out++l1++l2).length+1))=(bm N.os G (aq N.ts) (out++l1++l2).length).1.step N.os (min x y) (max x y):=by
    unfold ordS
    rw[hyes,hlast.1,hlast.2]
    rfl
   rw[hst2,d8 hos,List.mem_append,List.mem_singleton,List.mem_filter,List.mem_append]
   have hoff:∀ i,Osd.off (min x y) (max x y) i=true↔i≠x∧i≠y:=fun i=>by
    rw[show Osd.off (min x y) (max x y) i=(i !=min x y&&i !=max x y)from rfl]
    simp only[Bool.and_eq_true,bne_iff_ne,ne_eq]
    rcases hmm with ⟨h1,h2⟩ | ⟨h1,h2⟩
    ·rw[h1,h2]
    ·rw[h1,h2];exact And.comm
   rw[hoff]
   refine or_congr ?_ Iff.rfl
   have hnb:=nb i
   have hna:=na i
   constructor
   ·rintro⟨h1,h2,h3⟩
    rcases hnb.1 h1 with ⟨h4,h5⟩ | h4
    ·rcases hna.1 h4 with ⟨h6,h7⟩ | h6
     ·exact⟨h6,fun h=>h.elim h7 h5⟩
     ·exact absurd h6 h2
    ·exact absurd h4 h3
   ·rintro⟨h1,h2⟩
    have q1:i∉lvs N.ts.length F (stA F j):=fun h=>h2 (.inl h)
    have q2:i∉lvs N.ts.length F (stB F j):=fun h=>h2 (.inr h)
    refine⟨hnb.2 (.inl ⟨hna.2 (.inl ⟨h1,q1⟩),q2⟩),fun e=> ?_,fun e=> ?_⟩
    ·rcases Nat.lt_or_ge (stA F j) N.ts.length with h3 | h3
     ·have:=f1 h3
      simp only[Prod.mk.injEq]at this
      refine q1 ?_
      rw[e,this.2,dM h3]
      exact List.mem_singleton.2 rfl
     ·have h4:=g1 h3
      have h5:=List.length_pos_iff.2 (n1 h3)
      have h6:=b0 i h1
      simp only[List.length_append]at h4
      omega
    ·rcases Nat.lt_or_ge (stB F j) N.ts.length with h3 | h3
     ·have:=f2 h3
      simp only[Prod.mk.injEq]at this
      refine q2 ?_
      rw[e,this.2,dM h3]
      exact List.mem_singleton.2 rfl
     ·have h4:=g2 h3
      have h5:=List.length_pos_iff.2 (n2 h3)
      have h6:=b0 i h1
      simp only[List.length_append]at h4
      omega
end
section
variable {N : Net} {m n : Nat} {F : List Int}
theorem pY (h:StOk m n F):∀ k,k<m+n→∀ out,(walk m F k out).1.length=out.length+(nds m F k).length:=by
 intro k
 induction k using Nat.strongRecOn with
 | _ k ih=>
  intro hk out
  rcases Nat.lt_or_ge k m with hkm | hkm
  ·rw[dO hkm,qx hkm];rfl
  ·obtain⟨j,rfl⟩:∃ j,k=m+j:=⟨k-m,by omega⟩
   have hj:j<n:=by omega
   have hs:=h j hj
   have h1:=ih (stA F j) hs.1 (by omega) out
   have h2:=ih (stB F j) hs.2.1 (by omega) (walk m F (stA F j) out).1
   rw[f7 h hj,qw hs.1 hs.2.1]
   simp only[List.length_append,List.length_singleton]
   omega
theorem gN (l:List (Nat × Nat)):StepsI (aW l) l:=fun j hj=>by
 have e:=rf hj
 have e0:=congrArg (fun x=>x[0]?) e
 have e1:=congrArg (fun x=>x[1]?) e
 simp only[List.getElem?_drop,List.getElem?_cons_zero,List.getElem?_cons_succ,Nat.add_zero]at e0 e1
 rw[zq,zq,e0,e1]
 exact⟨rfl,rfl⟩
theorem qD (hok:am N n F=true) (hm:0<N.ts.length):(ordS N F n).nums=[N.ts.length+n-1]:=by
 have hw:=cq (an.1 (ao.1 hok).1).1
 exact(oE hok (wd:=(ah N.rg).toNat) (by omega) hm).2.2.1
theorem ln (hok:am N n F=true) (hn:0<n):(walk N.ts.length F (N.ts.length+n-1) []).1.length=n∧am N n (aW (walk N.ts.length F (N.ts.length+n-1) []).1)=true:=by
 have ho:=ao.1 hok
 have hm:0<N.ts.length:=by omega
 have hone:=qD hok hm
 obtain⟨s1,s2⟩:=share hok n (Nat.le_refl _)
 rw[hone]at s1 s2
 simp only[List.flatMap_cons,List.flatMap_nil,List.append_nil]at s1 s2
 have hlen:=pY (stOk hok) (N.ts.length+n-1) (by omega) []
 rw[s2.length_eq,List.length_range,zn,Nat.zero_add]at hlen
 refine⟨hlen,ao.2 ⟨ho.1,ho.2.1, ?_⟩⟩
 have:=(wU (G:=aW (walk N.ts.length F (N.ts.length+n-1) []).1) hok (N.ts.length+n-1) (by omega) [] (gN _) rfl fun l hl=>by
  show l∈(ordS N _ 0).nums
  rw[show (ordS N (aW (walk N.ts.length F (N.ts.length+n-1) []).1) 0).nums=List.range N.ts.length from gf N.ts]
  exact s1.mem_iff.1 hl).1
 rw[hlen]at this
 exact this
end
section
variable {N : Net} {n : Nat} {F G : List Int}
theorem tU {T J K:List Int} (h:J.Perm K):capP T J=capP T K:=by
 have:∀ {A B:List Int},A.Perm B→aa A=aa B:=by
  intro A B hp
  induction hp with
  | nil=>rfl
  | cons x _ ih=>rw[ba,ba,ih]
  | swap x y l=>rw[ba,ba,ba,ba, ← Int.mul_assoc, ← Int.mul_assoc,Int.mul_comm y x]
  | trans _ _ h1 h2=>exact h1.trans h2
 unfold capP
 rw[this (h.map _)]
theorem iK {v w:Nat} {s t:List Nat} (hp:s.Perm t) (hvw:v<N.ts.length↔w<N.ts.length) (x:Int):LabS N v s x↔LabS N w t x:=by
 unfold LabS
 refine and_congr ⟨fun⟨l,h,h'⟩=>⟨l,hp.mem_iff.1 h,h'⟩,fun⟨l,h,h'⟩=>⟨l,hp.mem_iff.2 h,h'⟩⟩ (or_congr hvw (or_congr Iff.rfl ?_))
 exact⟨fun⟨l,h1,h2,h3⟩=>⟨l,h1,fun h=>h2 (hp.mem_iff.2 h),h3⟩,fun⟨l,h1,h2,h3⟩=>⟨l,h1,fun h=>h2 (hp.mem_iff.1 h),h3⟩⟩
theorem Av (hF:am N n F=true) (hG:am N n G=true) {j i:Nat} (hj:j<n) (hi:i<n)
  (hab:((lvs N.ts.length G (stA G i)).Perm (lvs N.ts.length F (stA F j))∧(stA G i<N.ts.length↔stA F j<N.ts.length)∧(lvs N.ts.length G (stB G i)).Perm (lvs N.ts.length F (stB F j))∧(stB G i<N.ts.length↔stB F j<N.ts.length))∨
   ((lvs N.ts.length G (stA G i)).Perm (lvs N.ts.length F (stB F j))∧(stA G i<N.ts.length↔stB F j<N.ts.length)∧(lvs N.ts.length G (stB G i)).Perm (lvs N.ts.length F (stA F j))∧(stB G i<N.ts.length↔stA F j<N.ts.length))):
  eE N G i=eE N F j:=by
 have oF:=cQ hF j (by omega)
 have oG:=cQ hG i (by omega)
 have aF:=(cl hF hj).at oF
 have aG:=(cl hG hi).at oG
 unfold eE
 refine tU ((List.perm_ext_iff_of_nodup (oG.ok.join _ _).1 (oF.ok.join _ _).1).2 fun x=> ?_)
 rw[bb,bb,jd hF j (by omega) _ aF.1,jd hF j (by omega) _ aF.2,jd hG i (by omega) _ aG.1,jd hG i (by omega) _ aG.2]
 rcases hab with ⟨p1,q1,p2,q2⟩ | ⟨p1,q1,p2,q2⟩
 ·exact or_congr (iK p1 q1 x) (iK p2 q2 x)
 ·rw[iK p1 q1 x,iK p2 q2 x]
  exact Or.comm
theorem su (hF:am N n F=true) (hG:am N n G=true):∀ k,k<N.ts.length+n→∀ out,StepsI G (walk N.ts.length F k out).1→(walk N.ts.length F k out).1.length≤n→
  (lvs N.ts.length G (walk N.ts.length F k out).2).Perm (lvs N.ts.length F k)∧((walk N.ts.length F k out).2<N.ts.length↔k<N.ts.length)∧∀ i (hi:i<(nds N.ts.length F k).length),eE N G (out.length+i)=eE N F (nds N.ts.length F k)[i]∧(lvs N.ts.length G (N.ts.length+(out.length+i))).Perm (lvs N.ts.length F (N.ts.length+(nds N.ts.length F k)[i])):=by
 have hst:=stOk hF
 intro k
 induction k using Nat.strongRecOn with
 | _ k ih=>
  intro hk out hS hlen
  rcases Nat.lt_or_ge k N.ts.length with hkm | hkm
  ·rw[dO hkm]
   refine⟨by rw[dM hkm,dM hkm],Iff.rfl,fun i hi=> ?_⟩
   rw[qx hkm]at hi
   simp at hi
  ·obtain⟨j,rfl⟩:∃ j,k=N.ts.length+j:=⟨k-N.ts.length,by omega⟩
   have hj:j<n:=by omega
   have hs:=hst j hj
   have nA:=pY hst (stA F j) (by omega) out
   have nB:=pY hst (stB F j) (by omega) (walk N.ts.length F (stA F j) out).1
   obtain⟨⟨l1,e1,_⟩,_⟩:=gz hst (stA F j) (by omega) out
   obtain⟨⟨l2,e2,_⟩,_⟩:=gz hst (stB F j) (by omega) (walk N.ts.length F (stA F j) out).1
   have ia:=ih (stA F j) hs.1 (by omega) out
   have ib:=ih (stB F j) hs.2.1 (by omega) (walk N.ts.length F (stA F j) out).1
   rw[f7 hst hj]at hS hlen ⊢
   simp only at hS hlen ⊢
   generalize hA:walk N.ts.length F (stA F j) out=A at*
   obtain⟨o1,x⟩:=A
   simp only at*
   generalize hB:walk N.ts.length F (stB F j) o1=B at*
   obtain⟨o2,y⟩:=B
   simp only at*
   have hS2:StepsI G o2:=hS.pre
   have hS1:StepsI G o1:=by rw[e2]at hS2;exact hS2.pre
   rw[List.length_append,List.length_singleton]at hlen
   obtain⟨pa,qa,ca⟩:=ia hS1 (by omega)
   obtain⟨pb,qb,cb⟩:=ib hS2 (by omega)
   have hlast:=hS o2.length (by rw[List.length_append,List.length_singleton];omega)
   have hget:(o2++[(min x y,max x y)])[o2.length]'(by simp)=(min x y,max x y):=by simp
   rw[hget]at hlast
   simp only at hlast
   have hmm:(min x y=x∧max x y=y)∨(min x y=y∧max x y=x):=by omega
   have sA:stA G o2.length=min x y:=by unfold stA;rw[hlast.1];rfl
   have sB:stB G o2.length=max x y:=by unfold stB;rw[hlast.2];rfl
   have aG:=(cl hG (show o2.length<n by omega)).at (cQ hG o2.length (by omega))
   have hcost:eE N G o2.length=eE N F j:=Av hF hG hj (by omega) (by
    rw[sA,sB]
    rcases hmm with ⟨h1,h2⟩ | ⟨h1,h2⟩<;>rw[h1,h2]
    ·exact .inl ⟨pa,qa,pb,qb⟩
    ·exact .inr ⟨pb,qb,pa,qa⟩)
   have hlv:(lvs N.ts.length G (N.ts.length+o2.length)).Perm (lvs N.ts.length F (N.ts.length+j)):=by
    rw[jU aG.1 aG.2,jU hs.1 hs.2.1,sA,sB]
    rcases hmm with ⟨h1,h2⟩ | ⟨h1,h2⟩<;>rw[h1,h2]
    ·exact pa.append pb
    ·exact(pb.append pa).trans List.perm_append_comm
   refine⟨hlv,⟨fun h=>by omega,fun h=>by omega⟩,fun i hi=> ?_⟩
   ·have hn:=qw (m:=N.ts.length) hs.1 hs.2.1
    have key:∀ (L:List Nat) (hL:L=nds N.ts.length F (stA F j)++nds N.ts.length F (stB F j)++[j]) (hi:i<L.length),eE N G (out.length+i)=eE N F L[i]∧(lvs N.ts.length G (N.ts.length+(out.length+i))).Perm (lvs N.ts.length F (N.ts.length+L[i])):=by
     intro L hL hi
     subst hL
     rw[List.length_append,List.length_append,List.length_singleton]at hi
     by_cases h1:i<(nds N.ts.length F (stA F j)).length
     ·rw[List.getElem_append_left (by rw[List.length_append];omega),List.getElem_append_left h1]
      exact ca i h1
     ·by_cases h2:i<(nds N.ts.length F (stA F j)).length+(nds N.ts.length F (stB F j)).length
      ·rw[List.getElem_append_left (by rw[List.length_append];omega),List.getElem_append_right (by omega)]
       have:=cb (i-(nds N.ts.length F (stA F j)).length) (by omega)
       rw[show o1.length+(i-(nds N.ts.length F (stA F j)).length)=out.length+i by omega]at this
       exact this
      ·rw[List.getElem_append_right (by rw[List.length_append];omega)]
       have hi2:out.length+i=o2.length:=by omega
       have hz:∀ (q:Nat) (hq:q<[j].length),[j][q]=j:=fun q hq=>by
        have:q=0:=by simpa using hq
        subst this;rfl
       rw[hi2,hcost,hz]
       exact⟨rfl,hlv⟩
    exact key _ hn hi
theorem z9 {A B:List Int} (h:A.Perm B):sumI A=sumI B:=by
 induction h with
 | nil=>rfl
 | cons x _ ih=>rw[bz,bz,ih]
 | swap x y l=>rw[bz,bz,bz,bz];omega
 | trans _ _ h1 h2=>exact h1.trans h2
theorem x4 (hok:am N n F=true) (hn:0<n):(bn N (aW (walk N.ts.length F (N.ts.length+n-1) []).1) n).Perm (bn N F n):=by
 obtain⟨h1,h2⟩:=ln hok hn
 have hm:0<N.ts.length:=by have:=(ao.1 hok).2.1;omega
 have s2:=(share hok n (Nat.le_refl _)).2
 rw[qD hok hm]at s2
 simp only[List.flatMap_cons,List.flatMap_nil,List.append_nil]at s2
 obtain⟨_,_,hc⟩:=su hok h2 (N.ts.length+n-1) (by omega) [] (gN _) (by omega)
 have e:bn N (aW (walk N.ts.length F (N.ts.length+n-1) []).1) n=(nds N.ts.length F (N.ts.length+n-1)).map (eE N F):=by
  have hl:(nds N.ts.length F (N.ts.length+n-1)).length=n:=by rw[s2.length_eq,List.length_range]
  apply List.ext_getElem
  ·rw[ky,List.length_map,hl]
  intro i a b
  have hi:i<(nds N.ts.length F (N.ts.length+n-1)).length:=by simpa using b
  have:=(hc i hi).1
  rw[zn,Nat.zero_add]at this
  simp only[bn,List.getElem_map,List.getElem_range]
  exact this
 rw[e]
 exact s2.map _
theorem zh (hok:am N n F=true) (hn:0<n):sumI (bn N (aW (walk N.ts.length F (N.ts.length+n-1) []).1) n)=sumI (bn N F n):=z9 (x4 hok hn)
theorem sE (hF:am N n F=true) (hG:am N n G=true) {v w:Nat} (hv:v<N.ts.length+n) (hw:w<N.ts.length+n) (hp:(lvs N.ts.length G v).Perm (lvs N.ts.length F w)) (hvw:v<N.ts.length↔w<N.ts.length) (T:List Int):
  capP T ((ordS N G n).lab v)=capP T ((ordS N F n).lab w):=by
 have oF:=cQ hF n (Nat.le_refl _)
 have oG:=cQ hG n (Nat.le_refl _)
 refine tU ((List.perm_ext_iff_of_nodup (oG.ok.at v).1 (oF.ok.at w).1).2 fun x=> ?_)
 rw[jd hG n (Nat.le_refl _) v hv,jd hF n (Nat.le_refl _) w hw]
 exact iK hp hvw x
theorem x3 (hok:am N n F=true) (hn:0<n) (T:List Int):(∀ v,v<N.ts.length+n→∃ w,w<N.ts.length+n∧capP T ((ordS N (aW (walk N.ts.length F (N.ts.length+n-1) []).1) n).lab v)=capP T ((ordS N F n).lab w))∧
  ∀ w,w<N.ts.length+n→∃ v,v<N.ts.length+n∧capP T ((ordS N (aW (walk N.ts.length F (N.ts.length+n-1) []).1) n).lab v)=capP T ((ordS N F n).lab w):=by
 obtain⟨h1,h2⟩:=ln hok hn
 have hm:0<N.ts.length:=by have:=(ao.1 hok).2.1;omega
 have s2:=(share hok n (Nat.le_refl _)).2
 rw[qD hok hm]at s2
 simp only[List.flatMap_cons,List.flatMap_nil,List.append_nil]at s2
 have hl:(nds N.ts.length F (N.ts.length+n-1)).length=n:=by rw[s2.length_eq,List.length_range]
 obtain⟨_,_,hc⟩:=su hok h2 (N.ts.length+n-1) (by omega) [] (gN _) (by omega)
 generalize aW (walk N.ts.length F (N.ts.length+n-1) []).1=G at*
 have leaf:∀ v,v<N.ts.length→capP T ((ordS N G n).lab v)=capP T ((ordS N F n).lab v):=fun v hv=>sE hok h2 (by omega) (by omega) (by rw[dM hv,dM hv]) Iff.rfl T
 have node:∀ i (hi:i<(nds N.ts.length F (N.ts.length+n-1)).length),(nds N.ts.length F (N.ts.length+n-1))[i]<n∧capP T ((ordS N G n).lab (N.ts.length+i))=capP T ((ordS N F n).lab (N.ts.length+(nds N.ts.length F (N.ts.length+n-1))[i])):=fun i hi=>by
  have hj:=List.mem_range.1 (s2.mem_iff.1 (List.getElem_mem hi))
  have:=(hc i hi).2
  rw[zn,Nat.zero_add]at this
  exact⟨hj,sE hok h2 (by omega) (by omega) this ⟨fun h=>by omega,fun h=>by omega⟩ T⟩
 refine⟨fun v hv=> ?_,fun w hw=> ?_⟩
 ·by_cases e:v<N.ts.length
  ·exact⟨v,hv,leaf v e⟩
  ·obtain⟨i,rfl⟩:∃ i,v=N.ts.length+i:=⟨v-N.ts.length,by omega⟩
   obtain⟨h3,h4⟩:=node i (by omega)
   exact⟨_,by omega,h4⟩
 ·by_cases e:w<N.ts.length
  ·exact⟨w,hw,leaf w e⟩
  ·obtain⟨j,rfl⟩:∃ j,w=N.ts.length+j:=⟨w-N.ts.length,by omega⟩
   obtain⟨i,hi,hij⟩:=List.getElem_of_mem (s2.mem_iff.2 (List.mem_range.2 (show j<n by omega)))
   obtain⟨h3,h4⟩:=node i hi
   rw[hij]at h4
   exact⟨N.ts.length+i,by omega,h4⟩
end
end Go.Proofs.YtneocijmbnhblaaGreat
