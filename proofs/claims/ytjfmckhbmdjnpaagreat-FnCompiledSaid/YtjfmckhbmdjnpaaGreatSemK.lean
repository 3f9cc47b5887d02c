/-
 Networks over the labels 0 to 5: a tensor replaced, its environment, and sums of tensors. No condition.
-/
import Derived.Test.YtjfmckhbmdjnpaaGreatSemH
import Derived.Test.YtjfmckhbmdjnpaaGreatGenG
set_option linter.unusedSimpArgs false
set_option linter.unusedVariables false
namespace Go.Proofs.YtjfmckhbmdjnpaaGreat.Sem
open Plain
section
variable {E : Type} (S : SR E) {dim dim' : Int → Nat}
theorem vC:∀ {L:List Int},(∀ x∈L,dim x=dim' x)→pN dim L=pN dim' L
 | [],_=>rfl
 | x :: L,h=>by rw[pN,pN,h x List.mem_cons_self,vC fun y hy=>h y (List.mem_cons_of_mem _ hy)]
theorem AH:∀ {L:List Int} {a:Asg},(∀ x∈L,dim x=dim' x)→offR dim L a=offR dim' L a
 | [],_,_=>rfl
 | x :: L,a,h=>by rw[offR,offR,vC fun y hy=>h y (List.mem_cons_of_mem _ hy),AH fun y hy=>h y (List.mem_cons_of_mem _ hy)]
theorem Aa {f:Asg→E}:∀ {L:List Int} {a:Asg},(∀ x∈L,dim x=dim' x)→sumL S dim L f a=sumL S dim' L f a
 | [],_,_=>rfl
 | x :: L,a,h=>by
  rw[sumL,sumL,h x List.mem_cons_self]
  exact cD S fun v _=>Aa fun y hy=>h y (List.mem_cons_of_mem _ hy)
end
def d6:Int→Nat:=fun x=>(dimL x).toNat
theorem JB (x:Int):(d6 x:Int)=dimL x:=by have:=gf (x:=x);unfold d6;omega
section
variable {r : Rg} {wd : Nat} (hr : ah r = true) (hw : ai r = wd) {dim dim' : Int → Nat}
theorem Dd {t:Ten} (h:∀ x∈t.labels,dim x=dim' x):elT hr hw dim t=elT hr hw dim' t:=by
 funext a
 unfold elT
 rw[AH h]
theorem TV.reDim {t:Ten} (h:TV r wd dim t) (e:∀ x∈t.labels,dim x=dim' x):TV r wd dim' t:=
 ⟨h.nd,h.dm.trans (List.map_congr_left fun x hx=>by rw[e x hx]),fun x hx=>by rw[← e x hx];exact h.dp x hx,by rw[h.len,vC e],h.fit⟩
end
section
variable {N : Net} {wd : Nat}
theorem Bi (h:Gen6 N) {x:Int} (hx:x∈au N):dimF N x=d6 x:=by
 have h1:=(eI h.ok).1 hx
 have h2:=mX h.ok x
 have h3:=JB x
 rcases Cd h.six x with e | e<;>omega
theorem Ec (h:bp N=true) {x:Int}:x∈au N↔∃ t∈N.ts,x∈t.labels:=
 ⟨fun hx=>ou ((eI h).1 hx),fun⟨t,ht,hx⟩=>iT h ht hx⟩
theorem nv6 (h:Gen6 N) (hr:ah N.rg=true) (hw:ai N.rg=wd):TV N.rg wd d6 (nvR N wd)∧
  ∀ a:Asg,(∀ x∈N.os,a x<d6 x)→elT hr hw d6 (nvR N wd) a=valL (aN hr hw) d6 (N.ts.map (elT hr hw d6)) (gk N) a:=by
 obtain⟨h1,h2⟩:=Ju h.ok hw
 have ho:∀ x∈N.os,dimF N x=d6 x:=fun x hx=>Bi h (xL h.ok x hx)
 refine⟨h1.reDim ho,fun a ha=> ?_⟩
 rw[← Dd hr hw (dim:=dimF N) ho,h2 a fun x hx=>by rw[ho x hx];exact ha x hx]
 have e1:N.ts.map (elT hr hw (dimF N))=N.ts.map (elT hr hw d6):=List.map_congr_left fun t ht=>Dd hr hw fun x hx=>Bi h (iT h.ok ht hx)
 unfold valL
 rw[e1]
 exact Aa _ fun x hx=>Bi h (List.mem_filter.1 hx).1
end
end Go.Proofs.YtjfmckhbmdjnpaaGreat.Sem
namespace Go.Proofs.YtjfmckhbmdjnpaaGreat.Sem
open Plain
section
variable {N : Net} {wd : Nat}
end
end Go.Proofs.YtjfmckhbmdjnpaaGreat.Sem
namespace Go.Proofs.YtjfmckhbmdjnpaaGreat.Sem
open Plain
section
variable {r : Rg} {wd : Nat}
def L6 (L:List Int):Prop:=∀ x∈L,0≤x∧x<6
theorem Df (L:List Int):bQ d6 L=bu L:=List.map_congr_left fun x _=>JB x
theorem M9 {L:List Int} (hn:L.Nodup) (h:L6 L):axOk L (bQ d6 L):=by
 have hl:=len6 hn h
 refine vc (by omega) (by simp [bQ]) hn (fun l hl=>by have:=h l hl;omega) fun d hd=> ?_
 rw[Df]at hd
 obtain⟨y,_,rfl⟩:=List.mem_map.1 hd
 have:=gf (x:=y)
 omega
theorem sZ {L:List Int} (hn:L.Nodup) (h:L6 L):1≤aa (bQ d6 L)∧aa (bQ d6 L)≤729:=by
 rw[Df]
 exact⟨(j7 L).1,AB (len6 hn h)⟩
theorem Bt {L:List Int} (hn:L.Nodup) (h:L6 L):aY L (bQ d6 L)=aa (bQ d6 L):=by
 have h1:=M9 hn h
 have h2:=sZ hn h
 unfold aY
 rw[if_pos ⟨h1,by omega⟩]
theorem Cn {t:Ten} (hr:ah r=true) (hw:ai r=wd) (h:TV r wd d6 t) (h6:L6 t.labels):aE r t.labels t.dims t.data=true:=by
 have h1:=Bt h.nd h6
 have h2:=sZ h.nd h6
 simp only[aE,hr,Bool.true_and,Bool.and_eq_true,decide_eq_true_eq,nj]
 refine⟨⟨by rw[h.dm,h1];omega, ?_⟩,h.fit⟩
 rw[h.dm,h1,h.len,gD,hw]
 push_cast
 rfl
theorem xx {t:Ten} (hr:ah r=true) (hw:ai r=wd) (h:TV r wd d6 t) (h6:L6 t.labels):TSz 1048576 t:=by
 have hl:=len6 h.nd h6
 have hp:=sZ h.nd h6
 have hwd:=wd6 hr hw
 have htp:=dS hr
 rw[gD]at hp
 have hlen:t.data.length≤729*6:=by
  rw[h.len]
  exact Nat.mul_le_mul (by omega) hwd.2
 refine⟨⟨by omega,fun x hx=> ?_⟩,⟨?_,fun x hx=> ?_⟩,⟨by omega,fun x hx=> ?_⟩⟩
 ·have:=h6 x hx;unfold I64;omega
 ·rw[h.dm];simp [bQ];omega
 ·rw[h.dm,Df]at hx
  obtain⟨y,_,rfl⟩:=List.mem_map.1 hx
  have:=gf (x:=y)
  unfold I64;omega
 ·have:=jm h.fit x hx
  unfold I64;omega
theorem JC {A B:Ten} (hr:ah r=true) (hw:ai r=wd) (hA:TV r wd d6 A) (hB:TV r wd d6 B) (a6:L6 A.labels) (b6:L6 B.labels) (keep:List Int):conB r A B keep=true∧conT r A B keep=conR r wd A B keep∧L6 (conK A B keep):=by
 have hn:=va hA hB
 have h6:L6 (conL A B):=fun x hx=>(bc.1 hx).elim (a6 x) (b6 x)
 have hk6:L6 (conK A B keep):=fun x hx=>h6 x (List.mem_filter.1 hx).1
 have hkn:(conK A B keep).Nodup:=hn.filter _
 have h1:=sZ hn h6
 have h2:=Bt hkn hk6
 have h3:=sZ hkn hk6
 have hj:i0 A B=true:=by
  unfold i0
  rw[List.all_eq_true]
  intro x hx
  rw[Bool.not_eq_true',Bool.and_eq_false_iff]
  by_cases ha:x∈A.labels
  ·by_cases hb:x∈B.labels
   ·right
    rw[hA.dimEq ha,hB.dimEq hb]
    simp
   ·left
    rw[Bool.and_eq_false_iff]
    exact .inr (bK.2 hb)
  ·left
   rw[Bool.and_eq_false_iff]
   exact .inl (bK.2 ha)
 have hc:conB r A B keep=true:=by
  simp only[conB,Cn hr hw hA a6,Cn hr hw hB b6,hj,Bool.true_and,Bool.and_eq_true,decide_eq_true_eq]
  rw[qW hA hB,yr hA hB keep,h2]
  omega
 refine⟨hc, ?_,hk6⟩
 unfold conT
 rw[hc,hw]
 rfl
end
section
variable {N : Net} {wd n : Nat} {F : List Int}
theorem Gm (h:Gen6 N):L6 (au N):=fun x hx=>by
 obtain⟨t,ht,hxt⟩:=(Ec h.ok).1 hx
 exact(h.six t ht).bd x hxt
theorem tA6 (h:Gen6 N) (hok:aX N n F=true) (hw:ai N.rg=wd) {k i:Nat} (hk:k≤n) (hi:i<N.ts.length+k):TV N.rg wd d6 (tA N wd F k i)∧L6 (tA N wd F k i).labels∧(tA N wd F k i).labels=(ordS N F k).lab i:=by
 have hI:=invT hok hw k hk
 have e:=hI.lab i hi
 have hs:∀ x∈(tA N wd F k i).labels,x∈au N:=fun x hx=>by rw[e]at hx;exact hI.sub i hi x hx
 exact⟨(hI.tv i hi).reDim fun x hx=>Bi h (hs x hx),fun x hx=>Gm h x (hs x hx),e⟩
end
end Go.Proofs.YtjfmckhbmdjnpaaGreat.Sem
namespace Go.Proofs.YtjfmckhbmdjnpaaGreat.Sem
open Plain
section
variable {r : Rg} {wd : Nat}
theorem Fr {A B:List Int} (hA:A.Nodup) (hB:B.Nodup) (h:∀ x,x∈A↔x∈B):qe A B=true:=by
 have hp:A.Perm B:=(List.perm_ext_iff_of_nodup hA hB).2 h
 exact decide_eq_true ⟨hp.length_eq.symm,fun k hk=>⟨(h _).2 (List.getElem_mem hk),jk hB hk⟩⟩
end
section
variable {N : Net} {wd : Nat}
end
end Go.Proofs.YtjfmckhbmdjnpaaGreat.Sem
namespace Go.Proofs.YtjfmckhbmdjnpaaGreat
open Go.RowKit Go.Lift Plain
def t0:Ten:=⟨[],[],[]⟩
def o3:Opn:=⟨3,0,0,0,[]⟩
def bq (R0:Nat) (lab:Nat→List Int) (ct:List Int) (ld:List Bool):Mch:=⟨(List.range R0).map fun i=>if 0≤ct.getD i (-1) then (true,lab (ct.getD i (-1)).toNat) else (false,[]),ld⟩
section
variable {R0 : Nat} {lab : Nat → List Int} {ct : List Int} {ld : List Bool}
theorem dO:(bq R0 lab ct ld).rg.length=R0:=by simp [bq]
theorem t9 {i:Nat} (h:i<R0):(bq R0 lab ct ld).rg.getD i (false,[])=if 0≤ct.getD i (-1) then (true,lab (ct.getD i (-1)).toNat) else (false,[]):=by
 rw[zq]
 simp [bq,h]
theorem od {i:Nat} (h:i<R0):(bq R0 lab ct ld).full i=decide (0≤ct.getD i (-1)):=by
 unfold Mch.full
 rw[t9 h]
 split
 ·rename_i h1;rw[decide_eq_true h1]
 ·rename_i h1;rw[decide_eq_false h1]
theorem yV {i v:Nat} (h:i<R0) (hv:ct.getD i (-1)=v):(bq R0 lab ct ld).lb i=lab v:=by
 unfold Mch.lb
 rw[t9 h,if_pos (by omega),hv]
 rfl
theorem Gb {i:Nat} (h:i<R0) (hv:ct.getD i (-1)<0):(bq R0 lab ct ld).lb i=[]:=by
 unfold Mch.lb
 rw[t9 h,if_neg (by omega)]
theorem yW {rg:List (Bool × List Int)} {ct':List Int} (hl:rg.length=R0) (h:∀ i,i<R0→rg.getD i (false,[])=if 0≤ct'.getD i (-1) then (true,lab (ct'.getD i (-1)).toNat) else (false,[])):(⟨rg,ld⟩:Mch)=bq R0 lab ct' ld:=by
 have:rg=(bq R0 lab ct' ld).rg:=by
  apply List.ext_getElem
  ·rw[hl,dO]
  intro i h1 h2
  have h3:=h i (by omega)
  have h4:=t9 (R0:=R0) (lab:=lab) (ct:=ct') (ld:=ld) (i:=i) (by omega)
  rw[← h3]at h4
  simp only[zq,zg h1,zg h2,Option.getD_some]at h4
  exact h4.symm
 rw[this]
 rfl
end
theorem sd {l:List (Bool × List Int)} {i j:Nat} {v:Bool × List Int} (hi:i<l.length):(l.set i v).getD j (false,[])=if i=j then v else l.getD j (false,[]):=by
 rw[zq,zq,List.getElem?_set]
 split
 ·simp [hi]
 ·rfl
theorem D5 {l:List Ten} {i j:Nat} {v:Ten} (hi:i<l.length):(l.set i v).getD j t0=if i=j then v else l.getD j t0:=by
 rw[zq,zq,List.getElem?_set]
 split
 ·simp [hi]
 ·rfl
theorem xV {m:Mch} {B C:Nat} {L:List Int} {x:Int}:∀ q,x∈dE m B C L q↔x∈L∨∃ i,i<q∧i≠B∧i≠C∧x∈m.lb i
 | 0=>by simp [dE]
 | q+1=>by
  have ih:=xV (m:=m) (B:=B) (C:=C) (L:=L) (x:=x) q
  rw[dE]
  split
  ·rename_i h
   rw[bc,ih]
   constructor
   ·rintro ((h1 | ⟨i,h1,h2⟩) | h1)
    ·exact .inl h1
    ·exact .inr ⟨i,by omega,h2⟩
    ·exact .inr ⟨q,by omega,h.1,h.2,h1⟩
   ·rintro (h1 | ⟨i,h1,h2⟩)
    ·exact .inl (.inl h1)
    ·by_cases e:i=q
     ·subst e;exact .inr h2.2.2
     ·exact .inl (.inr ⟨i,by omega,h2⟩)
  ·rename_i h
   rw[ih]
   refine or_congr Iff.rfl ⟨fun⟨i,h1,h2⟩=>⟨i,by omega,h2⟩,fun⟨i,h1,h2⟩=>⟨i, ?_,h2⟩⟩
   rcases Nat.lt_or_ge i q with h3 | h3
   ·exact h3
   ·have:i=q:=by omega
    subst this
    exact absurd ⟨h2.1,h2.2.1⟩ h
theorem xU {ts:List Ten} {m:Mch} {L:List Int} {x:Int}:∀ q,x∈dr ts m L q↔x∈L∨∃ t,t<q∧m.ld.getD t true=false∧x∈(ts.getD t t0).labels
 | 0=>by simp [dr]
 | q+1=>by
  have ih:=xU (ts:=ts) (m:=m) (L:=L) (x:=x) q
  rw[dr]
  split
  ·rename_i h
   rw[bc,ih]
   constructor
   ·rintro ((h1 | ⟨i,h1,h2⟩) | h1)
    ·exact .inl h1
    ·exact .inr ⟨i,by omega,h2⟩
    ·exact .inr ⟨q,by omega,h,h1⟩
   ·rintro (h1 | ⟨i,h1,h2⟩)
    ·exact .inl (.inl h1)
    ·by_cases e:i=q
     ·subst e;exact .inr h2.2
     ·exact .inl (.inr ⟨i,by omega,h2⟩)
  ·rename_i h
   rw[ih]
   refine or_congr Iff.rfl ⟨fun⟨i,h1,h2⟩=>⟨i,by omega,h2⟩,fun⟨i,h1,h2⟩=>⟨i, ?_,h2⟩⟩
   rcases Nat.lt_or_ge i q with h3 | h3
   ·exact h3
   ·have:i=q:=by omega
    subst this
    exact absurd h2.1 h
theorem Ga {N:Net} {m:Mch} {o:Opn} {x:Int}:x∈need N m o↔(x∈N.os∨∃ i,i<m.rg.length∧i≠o.B∧i≠o.C∧x∈m.lb i)∨∃ t,t<N.ts.length∧m.ld.getD t true=false∧x∈(N.ts.getD t t0).labels:=by
 unfold need
 rw[xU,xV]
def uv (N:Net) (wd:Nat) (c:List Ten) (o:Opn):List Ten:=if o.kind=1 then c.set o.A (N.ts.getD o.B t0) else if o.kind=2 then c.set o.A (conR N.rg wd (c.getD o.B t0) (c.getD o.C t0) o.L) else c
def cTo (N:Net) (wd:Nat) (ops:List Opn) (R0:Nat):Nat→List Ten
 | 0=>List.replicate R0 t0
 | j+1=>uv N wd (cTo N wd ops R0 j) (ops.getD j o3)
theorem vb {N:Net} {wd R0:Nat} {ops:List Opn}:∀ j,(cTo N wd ops R0 j).length=R0
 | 0=>by simp [cTo]
 | j+1=>by
  have ih:=vb (N:=N) (wd:=wd) (R0:=R0) (ops:=ops) j
  simp only[cTo,uv]
  split
  ·simp [ih]
  ·split
   ·simp [ih]
   ·exact ih
structure PairOk (N:Net) (wd:Nat) (c:List Ten) (o:Opn):Prop where
 a:Sem.TV N.rg wd Sem.d6 (c.getD o.B t0)
 a6:Sem.L6 (c.getD o.B t0).labels
 b:Sem.TV N.rg wd Sem.d6 (c.getD o.C t0)
 b6:Sem.L6 (c.getD o.C t0).labels
 l6:Sem.L6 o.L
 ln:o.L.Nodup
structure Stt (N:Net) (wd R0 W:Nat) (lab:Nat→List Int) (T:Nat→Ten) (ops:List Opn) (P:Nat→Prop) (s:Cmp) (ld:List Bool):Prop where
 cst:Cst W P s
 run:mTo N ops (m0 N R0) s.ops.length=(bq R0 lab s.ct ld,true)
 con:∀ i u:Nat,s.ct.getD i (-1)=(u:Int)→(cTo N wd ops R0 s.ops.length).getD i t0=T u
 prs:∀ j (hj:j<s.ops.length),s.ops[j].kind=2→PairOk N wd (cTo N wd ops R0 j) s.ops[j]
 ldl:ld.length=N.ts.length
 kd:∀ o∈s.ops,(o.kind=1∨o.kind=2)∧o.A<R0∧(o.kind=1→o.B<N.ts.length∧o.C=0∧o.L=[])∧(o.kind=2→o.B<R0∧o.C<R0)
section
variable {N : Net} {wd R0 W : Nat} {lab : Nat → List Int} {T : Nat → Ten} {ops rest : List Opn} {P : Nat → Prop} {s : Cmp} {ld : List Bool}
theorem se {pre:List Opn} {o:Opn}:(pre++o :: rest).getD pre.length o3=o:=by
 rw[zq,List.getElem?_append_right (Nat.le_refl _),Nat.sub_self]
 rfl
theorem CY {pre:List Opn} {o:Opn} {M:Mch} (hO:ops=pre++o :: rest) (hr:rest≠[]) (hrun:mTo N ops (m0 N R0) pre.length=(M,true)) (hk:o.kind≠3) (hok:okB N M o=true):
  mTo N ops (m0 N R0) (pre++[o]).length=(exec N M o,true):=by
 have hg:ops.getD pre.length ⟨3,0,0,0,[]⟩=o:=by rw[hO];exact se
 have hl:(pre++[o]).length=pre.length+1:=by simp
 have hne:pre.length+1≠ops.length:=by
  rw[hO,List.length_append,Zl]
  have:=List.length_pos_iff.2 hr
  omega
 rw[hl]
 simp only[mTo,hrun,hg,hok,Bool.true_and,Bool.and_true]
 rw[decide_eq_false hk,decide_eq_false hne]
 rfl
theorem Di {pre:List Opn} {o:Opn} (hO:ops=pre++o :: rest):cTo N wd ops R0 (pre++[o]).length=uv N wd (cTo N wd ops R0 pre.length) o:=by
 have hg:ops.getD pre.length o3=o:=by rw[hO];exact se
 have hl:(pre++[o]).length=pre.length+1:=by simp
 rw[hl,cTo,hg]
def cP (m:Nat) (ld:List Bool) (v:Nat):List Bool:=if m≤v then ld else ld.set v true
theorem Stt.load (h:Stt N wd R0 W lab T ops P s ld) {v:Nat} (hv:if N.ts.length≤v then P v else ¬ P v∧ld.getD v true=false) (hb:v+1<W) (hO:ops=(aq N.ts.length s v).ops++rest) (hr:rest≠[]) (hR:(aq N.ts.length s v).R≤R0)
  (hlab:v<N.ts.length→lab v=(N.ts.getD v t0).labels) (hT:v<N.ts.length→T v=N.ts.getD v t0):
  Stt N wd R0 W lab T ops (fun u=>P u∨u=v) (aq N.ts.length s v) (cP N.ts.length ld v):=by
 have hv':if N.ts.length≤v then P v else ¬ P v:=by
  split
  ·rename_i e;rwa [if_pos e]at hv
  ·rename_i e;rw[if_neg e]at hv;exact hv.1
 obtain⟨c1,c2,c3,c4,c5⟩:=h.cst.load hv' hb
 by_cases e:N.ts.length≤v
 ·have es:aq N.ts.length s v=s:=by unfold aq;rw[if_pos e]
  have el:cP N.ts.length ld v=ld:=by unfold cP;rw[if_pos e]
  rw[es]at c1 ⊢
  rw[el]
  exact⟨c1,h.run,h.con,h.prs,h.ldl,h.kd⟩
 ·rw[if_neg e]at hv
  have es:aq N.ts.length s v=⟨s.ct.set (lowE s.ct) v,max s.R (lowE s.ct+1),s.ops++[⟨1,lowE s.ct,v,0,[]⟩]⟩:=by unfold aq;rw[if_neg e];rfl
  have el:cP N.ts.length ld v=ld.set v true:=by unfold cP;rw[if_neg e]
  rw[es]at c1 hO hR ⊢
  rw[el]
  have hR':max s.R (lowE s.ct+1)≤R0:=hR
  have hO':ops=s.ops++(⟨1,lowE s.ct,v,0,[]⟩:Opn) :: rest:=by rw[hO];simp
  obtain⟨l1,l2⟩:=h.cst.low (by omega)
  have hcl:=h.cst.len
  have hldl:=h.ldl
  have hlow:lowE s.ct<R0:=by omega
  have hg:∀ j,(s.ct.set (lowE s.ct) (v:Int)).getD j (-1)=if lowE s.ct=j then (v:Int) else s.ct.getD j (-1):=fun j=>ji (by omega)
  have hok:okB N (bq R0 lab s.ct ld) ⟨1,lowE s.ct,v,0,[]⟩=true:=by
   have e1:opIn (bq R0 lab s.ct ld) (lowE s.ct)=true:=decide_eq_true (by rw[dO];exact hlow)
   have e2:(bq R0 lab s.ct ld).full (lowE s.ct)=false:=by rw[od hlow,l2];rfl
   have e3:(bq R0 lab s.ct ld).ld=ld:=rfl
   unfold okB oq
   rw[if_pos rfl]
   simp only[e1,e2,e3,hv.2,Bool.true_and,Bool.not_false,Bool.and_true,zn,decide_true]
   exact decide_eq_true (by omega)
  have hex:exec N (bq R0 lab s.ct ld) ⟨1,lowE s.ct,v,0,[]⟩=bq R0 lab (s.ct.set (lowE s.ct) (v:Int)) (ld.set v true):=by
   unfold exec
   rw[if_pos rfl]
   have eL:exL N (bq R0 lab s.ct ld) ⟨1,lowE s.ct,v,0,[]⟩=lab v:=by rw[hlab (by omega)];rfl
   rw[eL]
   refine yW (by simp [bq]) fun i hi=> ?_
   show ((bq R0 lab s.ct ld).rg.set (lowE s.ct) (true,lab v)).getD i (false,[])=_
   rw[sd (by rw[dO];exact hlow),hg]
   by_cases e1:lowE s.ct=i
   ·rw[if_pos e1,if_pos e1,if_pos (by omega)]
    rfl
   ·rw[if_neg e1,if_neg e1,t9 hi]
  refine⟨c1, ?_,fun i u hu=> ?_,fun j hj hk=> ?_,by rw[List.length_set];exact hldl,fun o ho=> ?_⟩
  ·have:=CY hO' hr h.run (show (1:Nat)≠3 by decide) hok
   rw[hex]at this
   exact this
  ·have hu':(s.ct.set (lowE s.ct) (v:Int)).getD i (-1)=u:=hu
   rw[hg]at hu'
   have hc:=Di (N:=N) (wd:=wd) (R0:=R0) hO'
   show (cTo N wd ops R0 (s.ops++[(⟨1,lowE s.ct,v,0,[]⟩:Opn)]).length).getD i t0=_
   rw[hc]
   unfold uv
   rw[if_pos rfl,D5 (by rw[vb];exact hlow)]
   by_cases e1:lowE s.ct=i
   ·rw[if_pos e1]at hu' ⊢
    have:v=u:=by omega
    rw[← this,hT (by omega)]
   ·rw[if_neg e1]at hu' ⊢
    exact h.con i u hu'
  ·have hj':j<s.ops.length+1:=by simpa using hj
   by_cases e1:j<s.ops.length
   ·have:(s.ops++[(⟨1,lowE s.ct,v,0,[]⟩:Opn)])[j]=s.ops[j]:=List.getElem_append_left e1
    simp only[this]at hk ⊢
    exact h.prs j e1 hk
   ·have:(s.ops++[(⟨1,lowE s.ct,v,0,[]⟩:Opn)])[j]=⟨1,lowE s.ct,v,0,[]⟩:=by
     rw[List.getElem_append_right (by omega)]
     simp
    simp only[this]at hk
    cases hk
  ·rcases List.mem_append.1 ho with ho | ho
   ·exact h.kd o ho
   ·rw[List.mem_singleton.1 ho]
    exact⟨.inl rfl,hlow,fun _=>⟨by show v<_;omega,rfl,rfl⟩,fun h=>by cases h⟩
theorem Stt.pair (h:Stt N wd R0 W lab T ops P s ld) {w a b A B:Nat} (hA:P A) (hB:P B) (hab:A≠B) (hw:¬ P w) (hwb:w+1<W) (ha:s.ct.getD a (-1)=A) (hb:s.ct.getD b (-1)=B)
  (hO:ops=(dq s w a b (lab w)).ops++rest) (hr:rest≠[]) (hR:(dq s w a b (lab w)).R≤R0)
  {K:List Int} (hL:lab w=(ao (lab A) (lab B)).filter (has K)) (hK:∀ x,x∈K↔(x∈N.os∨∃ v,P v∧v≠A∧v≠B∧x∈lab v)∨∃ t,t<N.ts.length∧ld.getD t true=false∧x∈(N.ts.getD t t0).labels)
  (hT:T w=conR N.rg wd (T A) (T B) (lab w)) (hPo:Sem.TV N.rg wd Sem.d6 (T A)∧Sem.L6 (T A).labels∧Sem.TV N.rg wd Sem.d6 (T B)∧Sem.L6 (T B).labels∧Sem.L6 (lab w)∧(lab w).Nodup):
  Stt N wd R0 W lab T ops (fun u=>(P u∧u≠A∧u≠B)∨u=w) (dq s w a b (lab w)) ld∧(dq s w a b (lab w)).ct.getD (lowE s.ct) (-1)=w:=by
 obtain⟨c1,c2⟩:=h.cst.pair (lab w) hw hwb ha hb
 obtain⟨l1,l2⟩:=h.cst.low (by omega)
 have hcl:=h.cst.len
 have hR':max s.R (lowE s.ct+1)≤R0:=hR
 have hlow:lowE s.ct<R0:=by omega
 have ra:a<R0:=by have:=h.cst.reg a (by omega);omega
 have rb:b<R0:=by have:=h.cst.reg b (by omega);omega
 have na':a≠b:=fun e=>hab (by rw[e,hb]at ha;omega)
 have la:lowE s.ct≠a:=fun e=>by rw[← e,l2]at ha;omega
 have lb':lowE s.ct≠b:=fun e=>by rw[← e,l2]at hb;omega
 have hO':ops=s.ops++(⟨2,lowE s.ct,a,b,lab w⟩:Opn) :: rest:=by rw[hO];simp [dq]
 have fa:(bq R0 lab s.ct ld).lb a=lab A:=yV ra ha
 have fb:(bq R0 lab s.ct ld).lb b=lab B:=yV rb hb
 have hjn:jnO (bq R0 lab s.ct ld) ⟨2,lowE s.ct,a,b,lab w⟩=ao (lab A) (lab B):=by
  show ao ((bq R0 lab s.ct ld).lb a) ((bq R0 lab s.ct ld).lb b)=_
  rw[fa,fb]
 have hneed:∀ x,x∈need N (bq R0 lab s.ct ld) ⟨2,lowE s.ct,a,b,lab w⟩↔x∈K:=fun x=>by
  rw[Ga,hK]
  refine or_congr (or_congr Iff.rfl ⟨fun⟨i,h1,h2,h3,h4⟩=> ?_,fun⟨v,h1,h2,h3,h4⟩=> ?_⟩) Iff.rfl
  ·rw[dO]at h1
   rcases h.cst.ent i with e | ⟨v,e,hv⟩
   ·rw[Gb h1 (by omega)]at h4
    cases h4
   ·rw[yV h1 e]at h4
    exact⟨v,hv,fun e2=>h2 (h.cst.inj i a (by omega) (by rw[e,ha,e2])),fun e2=>h3 (h.cst.inj i b (by omega) (by rw[e,hb,e2])),h4⟩
  ·obtain⟨i,e⟩:=h.cst.has v h1
   have hi:i<R0:=by have:=h.cst.reg i (by omega);omega
   exact⟨i,by rw[dO];exact hi,fun e2=>h2 (by have e3:i=a:=e2;rw[e3,ha]at e;omega),fun e2=>h3 (by have e3:i=b:=e2;rw[e3,hb]at e;omega),by rw[yV hi e];exact h4⟩
 have hLf:(ao (lab A) (lab B)).filter (has (lab w))=lab w:=by
  conv=>rhs;rw[hL]
  refine List.filter_congr fun x hx=> ?_
  rw[Bool.eq_iff_iff,aI,aI,hL,List.mem_filter,aI]
  exact⟨fun h=>h.2,fun h=>⟨hx,h⟩⟩
 have hok:okB N (bq R0 lab s.ct ld) ⟨2,lowE s.ct,a,b,lab w⟩=true:=by
  unfold okB nY
  rw[if_neg (show ¬ (2:Nat)=1 by decide),if_pos rfl]
  have i1:opIn (bq R0 lab s.ct ld) (lowE s.ct)=true:=decide_eq_true (by rw[dO];exact hlow)
  have i2:opIn (bq R0 lab s.ct ld) a=true:=decide_eq_true (by rw[dO];exact ra)
  have i3:opIn (bq R0 lab s.ct ld) b=true:=decide_eq_true (by rw[dO];exact rb)
  have f1:(bq R0 lab s.ct ld).full (lowE s.ct)=false:=by rw[od hlow,l2];rfl
  have f2:(bq R0 lab s.ct ld).full a=true:=by rw[od ra,ha];exact decide_eq_true (by omega)
  have f3:(bq R0 lab s.ct ld).full b=true:=by rw[od rb,hb];exact decide_eq_true (by omega)
  have s1:subB (lab w) (ao (lab A) (lab B))=true:=decide_eq_true fun x hx=>by rw[hL]at hx;exact(List.mem_filter.1 hx).1
  have s2:subB ((ao (lab A) (lab B)).filter (has (need N (bq R0 lab s.ct ld) ⟨2,lowE s.ct,a,b,lab w⟩))) (lab w)=true:=decide_eq_true fun x hx=>by
   obtain⟨x1,x2⟩:=List.mem_filter.1 hx
   rw[aI,hneed]at x2
   rw[hL]
   exact List.mem_filter.2 ⟨x1,aI.2 x2⟩
  simp only[hjn,i1,i2,i3,f1,f2,f3,s1,s2,Bool.true_and,Bool.not_false,Bool.and_true]
  exact decide_eq_true na'
 have hex:exec N (bq R0 lab s.ct ld) ⟨2,lowE s.ct,a,b,lab w⟩=bq R0 lab (dq s w a b (lab w)).ct ld:=by
  unfold exec
  rw[if_neg (show ¬ (2:Nat)=1 by decide),if_pos rfl]
  have eL:exL N (bq R0 lab s.ct ld) ⟨2,lowE s.ct,a,b,lab w⟩=lab w:=by
   unfold exL
   rw[if_neg (show ¬ (2:Nat)=1 by decide),if_pos rfl,hjn]
   exact hLf
  rw[eL]
  refine yW (by simp [bq]) fun i hi=> ?_
  show ((((bq R0 lab s.ct ld).rg.set a (false,[])).set b (false,[])).set (lowE s.ct) (true,lab w)).getD i (false,[])=_
  rw[sd (by simp only[List.length_set];rw[dO];exact hlow),sd (by simp only[List.length_set];rw[dO];exact rb),sd (by rw[dO];exact ra),c2]
  by_cases e1:lowE s.ct=i
  ·have hz:(if b=i then (-1:Int) else if a=i then -1 else if lowE s.ct=i then (w:Int) else s.ct.getD i (-1))=w:=by
    rw[if_neg (fun e=>lb' (e1.trans e.symm)),if_neg (fun e=>la (e1.trans e.symm)),if_pos e1]
   rw[hz,if_pos e1,if_pos (by omega)]
   rfl
  ·rw[if_neg e1]
   by_cases e2:b=i
   ·rw[if_pos e2,if_pos e2,if_neg (by omega)]
   ·rw[if_neg e2,if_neg e2]
    by_cases e3:a=i
    ·rw[if_pos e3,if_pos e3,if_neg (by omega)]
    ·rw[if_neg e3,if_neg e3,if_neg e1,t9 hi]
 have hpo:PairOk N wd (cTo N wd ops R0 s.ops.length) ⟨2,lowE s.ct,a,b,lab w⟩:=by
  have ea:=h.con a A ha
  have eb:=h.con b B hb
  exact⟨by show Sem.TV _ _ _ ((cTo N wd ops R0 s.ops.length).getD a t0);rw[ea];exact hPo.1,by show Sem.L6 ((cTo N wd ops R0 s.ops.length).getD a t0).labels;rw[ea];exact hPo.2.1,by show Sem.TV _ _ _ ((cTo N wd ops R0 s.ops.length).getD b t0);rw[eb];exact hPo.2.2.1,by show Sem.L6 ((cTo N wd ops R0 s.ops.length).getD b t0).labels;rw[eb];exact hPo.2.2.2.1,hPo.2.2.2.2.1,hPo.2.2.2.2.2⟩
 refine⟨⟨c1, ?_,fun i u hu=> ?_,fun j hj hk=> ?_,h.ldl,fun o ho=> ?_⟩, ?_⟩
 ·have:=CY hO' hr h.run (show (2:Nat)≠3 by decide) hok
  rw[hex]at this
  exact this
 ·have hu':=hu
  rw[c2]at hu'
  have hc:=Di (N:=N) (wd:=wd) (R0:=R0) hO'
  show (cTo N wd ops R0 (s.ops++[(⟨2,lowE s.ct,a,b,lab w⟩:Opn)]).length).getD i t0=_
  rw[hc]
  unfold uv
  rw[if_neg (show ¬ (2:Nat)=1 by decide),if_pos rfl,D5 (by rw[vb];exact hlow)]
  by_cases e2:b=i
  ·rw[if_pos e2]at hu';omega
  rw[if_neg e2]at hu'
  by_cases e3:a=i
  ·rw[if_pos e3]at hu';omega
  rw[if_neg e3]at hu'
  by_cases e1:lowE s.ct=i
  ·rw[if_pos e1]at hu' ⊢
   have:w=u:=by omega
   rw[← this,hT]
   have ea:=h.con a A ha
   have eb:=h.con b B hb
   show conR N.rg wd ((cTo N wd ops R0 s.ops.length).getD a t0) ((cTo N wd ops R0 s.ops.length).getD b t0) (lab w)=_
   rw[ea,eb]
  ·rw[if_neg e1]at hu' ⊢
   exact h.con i u hu'
 ·have hj':j<s.ops.length+1:=by simpa [dq]using hj
  by_cases e1:j<s.ops.length
  ·have:(dq s w a b (lab w)).ops[j]=s.ops[j]:=List.getElem_append_left e1
   simp only[this]at hk ⊢
   exact h.prs j e1 hk
  ·have e5:j=s.ops.length:=by omega
   subst e5
   have:(dq s w a b (lab w)).ops[s.ops.length]=⟨2,lowE s.ct,a,b,lab w⟩:=by simp [dq]
   simp only[this]
   exact hpo
 ·rcases List.mem_append.1 (show o∈s.ops++[(⟨2,lowE s.ct,a,b,lab w⟩:Opn)]from ho)with ho | ho
  ·exact h.kd o ho
  ·rw[List.mem_singleton.1 ho]
   exact⟨.inr rfl,hlow,(fun h=>by cases h),fun _=>⟨ra,rb⟩⟩
 ·rw[c2,if_neg (fun e=>lb' e.symm),if_neg (fun e=>la e.symm),if_pos rfl]
end
theorem oh (m:Nat) (s:Cmp) (v:Nat):(aq m s v).ops=s.ops++(if m≤v then [] else [⟨1,lowE s.ct,v,0,[]⟩]):=by
 unfold aq
 split<;>simp
theorem yZ (m:Nat) (s:Cmp) (v:Nat):s.R≤(aq m s v).R:=by
 unfold aq
 split
 ·exact Nat.le_refl _
 ·exact Nat.le_max_left _ _
theorem Stt.congr {N:Net} {wd R0 W:Nat} {lab:Nat→List Int} {T:Nat→Ten} {ops:List Opn} {P P':Nat→Prop} {s:Cmp} {ld ld':List Bool} (h:Stt N wd R0 W lab T ops P s ld) (hP:∀ v,P v↔P' v) (hl:ld=ld'):Stt N wd R0 W lab T ops P' s ld':=by
 have:P=P':=funext fun v=>propext (hP v)
 rw[← this, ← hl]
 exact h
section
variable {N : Net} {wd n : Nat} {F : List Int}
theorem Gn (hok:aX N n F=true) {k v:Nat} (hv:v<N.ts.length+k):∀ d,k+d≤n→(ordS N F (k+d)).lab v=(ordS N F k).lab v
 | 0,_=>rfl
 | d+1,hd=>by
  have ih:=Gn hok hv d (by omega)
  have hs:=dN hok (show k+d<n by omega)
  have ho:=(fi hok (k+d) (by omega)).ok
  rw[← Nat.add_assoc,hs.nx,ot ho (by omega),ih]
theorem er (hok:aX N n F=true) {k v:Nat} (hk:k≤n) (hv:v<N.ts.length+k):(ordS N F n).lab v=(ordS N F k).lab v:=by
 have:=Gn hok hv (n-k) (by omega)
 rwa [show k+(n-k)=n by omega]at this
theorem Jo {k v:Nat} (hv:v<N.ts.length+k):∀ d,Sem.tA N wd F (k+d) v=Sem.tA N wd F k v
 | 0=>rfl
 | d+1=>by
  rw[← Nat.add_assoc,Sem.tA,if_neg (by omega)]
  exact Jo hv d
theorem vl {k v:Nat} (hk:k≤n) (hv:v<N.ts.length+k):Sem.tA N wd F n v=Sem.tA N wd F k v:=by
 have:=Jo (N:=N) (wd:=wd) (F:=F) hv (n-k)
 rwa [show k+(n-k)=n by omega]at this
def cmpS (N:Net) (n:Nat) (F:List Int):Nat→Cmp
 | 0=>⟨List.replicate (N.ts.length+n+1) (-1),0,[]⟩
 | k+1=>dq (aq N.ts.length (aq N.ts.length (cmpS N n F k) (stA F k)) (stB F k)) (N.ts.length+k) (cN N.ts.length (cmpS N n F k) (stA F k)) (cN N.ts.length (aq N.ts.length (cmpS N n F k) (stA F k)) (stB F k)) ((ordS N F (k+1)).lab (N.ts.length+k))
def cmpL (N:Net) (n:Nat) (F:List Int) (k:Nat):Nat:=lowE (aq N.ts.length (aq N.ts.length (cmpS N n F k) (stA F k)) (stB F k)).ct
def ldS (N:Net) (F:List Int) (k:Nat):List Bool:=(List.range N.ts.length).map fun t=> !(ordS N F k).alive t
theorem qP {k t:Nat} (ht:t<N.ts.length):(ldS N F k).getD t true= !(ordS N F k).alive t:=by
 simp [ldS,zq,ht]
theorem bF (hok:aX N n F=true) {k v:Nat} (hk:k≤n):v∈(ordS N F k).nums↔v<N.ts.length+k∧(ordS N F k).alive v=true:=by
 have ho:=(fi hok k hk).ok
 rw[gM,ho.n]
 simp [Osd.alive]
theorem AG (N:Net) (n:Nat) (F:List Int) (k:Nat):∃ X,(cmpS N n F (k+1)).ops=(cmpS N n F k).ops++X:=by
 have h:(cmpS N n F (k+1)).ops=(aq N.ts.length (aq N.ts.length (cmpS N n F k) (stA F k)) (stB F k)).ops++[⟨2,cmpL N n F k,cN N.ts.length (cmpS N n F k) (stA F k),cN N.ts.length (aq N.ts.length (cmpS N n F k) (stA F k)) (stB F k),(ordS N F (k+1)).lab (N.ts.length+k)⟩]:=rfl
 rw[oh,oh,List.append_assoc,List.append_assoc]at h
 exact⟨_,h⟩
theorem R_next (N:Net) (n:Nat) (F:List Int) (k:Nat):(cmpS N n F k).R≤(cmpS N n F (k+1)).R:=by
 have h1:=yZ N.ts.length (cmpS N n F k) (stA F k)
 have h2:=yZ N.ts.length (aq N.ts.length (cmpS N n F k) (stA F k)) (stB F k)
 show _≤max _ _
 omega
theorem D1 (hok:aX N n F=true) {k:Nat} (hk:k+1≤n):cP N.ts.length (cP N.ts.length (ldS N F k) (stA F k)) (stB F k)=ldS N F (k+1):=by
 have hs:=dN hok (show k<n by omega)
 have ho:=(fi hok k (by omega)).ok
 have hal:∀ t,t<N.ts.length→(ordS N F (k+1)).alive t=(Osd.off (stA F k) (stB F k) t&&(ordS N F k).alive t):=fun t ht=>by rw[hs.nx];exact n7 ho (by omega)
 apply List.ext_getElem?
 intro t
 have hget:∀ (l:List Bool) v,(cP N.ts.length l v)[t]? =if v<N.ts.length∧v=t∧t<l.length then some true else l[t]? :=fun l v=>by
  unfold cP
  split
  ·rw[if_neg (by omega)]
  ·rw[List.getElem?_set]
   by_cases e:v=t
   ·rw[if_pos e]
    by_cases e2:t<l.length
    ·rw[if_pos (by omega),if_pos ⟨by omega,e,e2⟩]
    ·rw[if_neg (by omega),if_neg (by omega),List.getElem?_eq_none (by omega)]
   ·rw[if_neg e,if_neg (by omega)]
 have hlen:∀ (l:List Bool) v,(cP N.ts.length l v).length=l.length:=fun l v=>by unfold cP;split<;>simp
 have hl0:(ldS N F k).length=N.ts.length:=by simp [ldS]
 rw[hget,hget,hlen,hl0]
 by_cases ht:t<N.ts.length
 ·have e0:(ldS N F k)[t]? =some (!(ordS N F k).alive t):=by simp [ldS,ht]
  have e1:(ldS N F (k+1))[t]? =some (!(ordS N F (k+1)).alive t):=by simp [ldS,ht]
  rw[e0,e1,hal t ht]
  unfold Osd.off
  by_cases eb:stB F k=t
  ·rw[if_pos ⟨by omega,eb,ht⟩]
   simp [eb]
  ·rw[if_neg (by omega)]
   have eb':t≠stB F k:=fun e=>eb e.symm
   by_cases ea:stA F k=t
   ·rw[if_pos ⟨by omega,ea,ht⟩]
    simp [ea]
   ·rw[if_neg (by omega)]
    have ea':t≠stA F k:=fun e=>ea e.symm
    simp [ea',eb']
 ·rw[if_neg (by omega),if_neg (by omega)]
  simp [ldS,ht]
theorem sA (hN:Gen6 N) (hok:aX N n F=true) (hw:ai N.rg=wd) {ops:List Opn} {R0:Nat}:∀ k,k≤n→∀ rest,rest≠[]→ops=(cmpS N n F k).ops++rest→(cmpS N n F k).R≤R0→
  Stt N wd R0 (N.ts.length+n+1) (ordS N F n).lab (Sem.tA N wd F n) ops (fun v=>N.ts.length≤v∧v∈(ordS N F k).nums) (cmpS N n F k) (ldS N F k)∧
  (∀ j,j+1=k→(cmpS N n F k).ct.getD (cmpL N n F j) (-1)=((N.ts.length+j:Nat):Int))
 | 0,_,rest,hr,hO,hR=>by
  have hrep:∀ i,(List.replicate (N.ts.length+n+1) (-1:Int)).getD i (-1)= -1:=fun i=>by
   simp [zq,List.getElem?_replicate]
   split<;>rfl
  have hn0:(ordS N F 0).nums=List.range N.ts.length:=Sem.iQ N.ts
  have hld:ldS N F 0=List.replicate N.ts.length false:=by
   apply List.ext_getElem
   ·simp [ldS]
   intro i h1 h2
   have hi:i<N.ts.length:=by simpa using h2
   have:(ordS N F 0).alive i=true:=((bF hok (Nat.zero_le n)).1 (by rw[hn0];simpa using hi)).2
   simp [ldS,this]
  refine⟨⟨⟨by simp [cmpS],fun i=>.inl (hrep i),fun v hv=> ?_,fun i j hi _=> ?_,fun i hi=> ?_,Nat.zero_le _,fun v hv=> ?_⟩, ?_,fun i u hu=> ?_,fun j hj=> ?_,by simp [ldS],fun o ho=> ?_⟩,fun j hj=>by omega⟩
  ·have:=hv.2
   rw[hn0]at this
   have:=List.mem_range.1 this
   omega
  ·have h1:0≤(List.replicate (N.ts.length+n+1) (-1:Int)).getD i (-1):=hi
   rw[hrep]at h1;omega
  ·have h1:0≤(List.replicate (N.ts.length+n+1) (-1:Int)).getD i (-1):=hi
   rw[hrep]at h1;omega
  ·have:=hv.2
   rw[hn0]at this
   have:=List.mem_range.1 this
   omega
  ·show (m0 N R0,true)=_
   rw[hld]
   congr 1
   refine yW (by simp) fun i hi=> ?_
   have h1:(cmpS N n F 0).ct.getD i (-1)= -1:=hrep i
   rw[h1,if_neg (by omega)]
   simp [zq,hi]
  ·have h1:(List.replicate (N.ts.length+n+1) (-1:Int)).getD i (-1)=u:=hu
   rw[hrep]at h1;omega
  ·exact absurd hj (by simp [cmpS])
  ·cases ho
 | k+1,hk,rest,hr,hO,hR=>by
  obtain⟨X,hX⟩:=AG N n F k
  have hRn:=R_next N n F k
  obtain⟨h,_⟩:=sA hN hok hw (ops:=ops) (R0:=R0) k (by omega) (X++rest) (by simp [hr]) (by rw[hO,hX,List.append_assoc]) (by omega)
  have hs:=dN hok (show k<n by omega)
  have ho:=(fi hok k (by omega)).ok
  have hab:=hs.at (fi hok k (by omega))
  have hne:stA F k≠stB F k:=by have:=hs.lt;omega
  obtain⟨vA,wA⟩:=(bF hok (show k≤n by omega)).1 hs.ma
  obtain⟨vB,wB⟩:=(bF hok (show k≤n by omega)).1 hs.mb
  have labA:=er hok (show k≤n by omega) vA
  have labB:=er hok (show k≤n by omega) vB
  have lab0:∀ v,v<N.ts.length→(ordS N F n).lab v=(N.ts.getD v t0).labels:=fun v hv=>by
   rw[er hok (Nat.zero_le n) (by omega)]
   exact Sem.lO hv
  have T0:∀ v,v<N.ts.length→Sem.tA N wd F n v=N.ts.getD v t0:=fun v hv=>by
   rw[vl (Nat.zero_le n) (by omega)]
   rfl
  have hw1:(ordS N F (k+1)).lab (N.ts.length+k)=(ordS N F n).lab (N.ts.length+k):=(er hok hk (by omega)).symm
  have hres:(ordS N F n).lab (N.ts.length+k)=(ordS N F k).res N.os (stA F k) (stB F k):=by rw[← hw1,hs.nx];exact dP ho
  have hcs:cmpS N n F (k+1)=dq (aq N.ts.length (aq N.ts.length (cmpS N n F k) (stA F k)) (stB F k)) (N.ts.length+k) (cN N.ts.length (cmpS N n F k) (stA F k)) (cN N.ts.length (aq N.ts.length (cmpS N n F k) (stA F k)) (stB F k)) ((ordS N F n).lab (N.ts.length+k)):=by rw[← hw1];rfl
  have hcl:cmpL N n F k=lowE (aq N.ts.length (aq N.ts.length (cmpS N n F k) (stA F k)) (stB F k)).ct:=rfl
  rw[hcs]at hO hR ⊢
  generalize cmpS N n F k=s at*
  have hA:if N.ts.length≤stA F k then (N.ts.length≤stA F k∧stA F k∈(ordS N F k).nums) else ¬ (N.ts.length≤stA F k∧stA F k∈(ordS N F k).nums)∧(ldS N F k).getD (stA F k) true=false:=by
   split
   ·rename_i e;exact⟨e,hs.ma⟩
   ·rename_i e;exact⟨fun h=>e h.1,by rw[qP (by omega),wA];rfl⟩
  have hA':if N.ts.length≤stA F k then (N.ts.length≤stA F k∧stA F k∈(ordS N F k).nums) else ¬ (N.ts.length≤stA F k∧stA F k∈(ordS N F k).nums):=by
   split
   ·rename_i e;rwa [if_pos e]at hA
   ·rename_i e;rw[if_neg e]at hA;exact hA.1
  have l2:=oh N.ts.length (aq N.ts.length s (stA F k)) (stB F k)
  have hR2:=yZ N.ts.length (aq N.ts.length s (stA F k)) (stB F k)
  have hRp:max (aq N.ts.length (aq N.ts.length s (stA F k)) (stB F k)).R (lowE (aq N.ts.length (aq N.ts.length s (stA F k)) (stB F k)).ct+1)≤R0:=hR
  have hOp:ops=(aq N.ts.length (aq N.ts.length s (stA F k)) (stB F k)).ops++([⟨2,lowE (aq N.ts.length (aq N.ts.length s (stA F k)) (stB F k)).ct,cN N.ts.length s (stA F k),cN N.ts.length (aq N.ts.length s (stA F k)) (stB F k),(ordS N F n).lab (N.ts.length+k)⟩]++rest):=by rw[hO];exact List.append_assoc ..
  have h1:=h.load hA (by omega) (rest:=(if N.ts.length≤stB F k then [] else [⟨1,lowE (aq N.ts.length s (stA F k)).ct,stB F k,0,[]⟩])++([⟨2,lowE (aq N.ts.length (aq N.ts.length s (stA F k)) (stB F k)).ct,cN N.ts.length s (stA F k),cN N.ts.length (aq N.ts.length s (stA F k)) (stB F k),(ordS N F n).lab (N.ts.length+k)⟩]++rest)) (by rw[hOp,l2,List.append_assoc]) (by simp) (by omega) (lab0 _) (T0 _)
  have hB:if N.ts.length≤stB F k then ((N.ts.length≤stB F k∧stB F k∈(ordS N F k).nums)∨stB F k=stA F k) else ¬ ((N.ts.length≤stB F k∧stB F k∈(ordS N F k).nums)∨stB F k=stA F k)∧(cP N.ts.length (ldS N F k) (stA F k)).getD (stB F k) true=false:=by
   split
   ·rename_i e;exact .inl ⟨e,hs.mb⟩
   ·rename_i e
    refine⟨fun h=>h.elim (fun h=>e h.1) (fun h=>hne h.symm), ?_⟩
    have hb0:(ldS N F k).getD (stB F k) true=false:=by rw[qP (by omega),wB];rfl
    unfold cP
    split
    ·exact hb0
    ·rw[zq,List.getElem?_set,if_neg hne, ← zq]
     exact hb0
  have hB':if N.ts.length≤stB F k then ((N.ts.length≤stB F k∧stB F k∈(ordS N F k).nums)∨stB F k=stA F k) else ¬ ((N.ts.length≤stB F k∧stB F k∈(ordS N F k).nums)∨stB F k=stA F k):=by
   split
   ·rename_i e;rwa [if_pos e]at hB
   ·rename_i e;rw[if_neg e]at hB;exact hB.1
  have h2:=h1.load hB (by omega) (rest:=[⟨2,lowE (aq N.ts.length (aq N.ts.length s (stA F k)) (stB F k)).ct,cN N.ts.length s (stA F k),cN N.ts.length (aq N.ts.length s (stA F k)) (stB F k),(ordS N F n).lab (N.ts.length+k)⟩]++rest) hOp (by simp) (by omega) (lab0 _) (T0 _)
  obtain⟨_,a2,_,_,_⟩:=h.cst.load hA' (by omega)
  obtain⟨_,b2,_,_,b5⟩:=h1.cst.load hB' (by omega)
  have a3:=b5 _ _ a2
  have hld:=D1 hok hk
  rw[hld]at h2
  have hnx:(ordS N F (k+1)).nums=(ordS N F k).nums.filter (Osd.off (stA F k) (stB F k))++[N.ts.length+k]:=by rw[hs.nx];exact eH ho
  obtain⟨tA1,tA2,tA3⟩:=Sem.tA6 hN hok hw (Nat.le_refl n) (show stA F k<N.ts.length+n by omega)
  obtain⟨tB1,tB2,tB3⟩:=Sem.tA6 hN hok hw (Nat.le_refl n) (show stB F k<N.ts.length+n by omega)
  obtain⟨tW1,tW2,tW3⟩:=Sem.tA6 hN hok hw (Nat.le_refl n) (show N.ts.length+k<N.ts.length+n by omega)
  have lnd:=tW1.nd
  rw[tW3]at lnd tW2
  obtain⟨p1,p2⟩:=h2.pair (A:=stA F k) (B:=stB F k) (w:=N.ts.length+k) (K:=(ordS N F k).keep N.os (stA F k) (stB F k)) (.inl (.inr rfl)) (.inr rfl) hne
   (fun h=>by
    rcases h with (h | h) | h
    ·have:=((bF hok (show k≤n by omega)).1 h.2).1
     omega
    ·omega
    ·omega) (by omega) a3 b2 hO hr hR (by rw[hres,Osd.res,labA,labB]) (fun x=>by
    unfold Osd.keep
    rw[List.mem_append,List.mem_flatMap]
    constructor
    ·rintro (hx | ⟨i,hi,hx⟩)
     ·exact .inl (.inl hx)
     ·obtain⟨i1,i2⟩:=List.mem_filter.1 hi
      have i3:i≠stA F k∧i≠stB F k:=by simpa [Osd.off]using i2
      obtain⟨i4,i5⟩:=(bF hok (show k≤n by omega)).1 i1
      by_cases e:N.ts.length≤i
      ·exact .inl (.inr ⟨i,.inl (.inl ⟨e,i1⟩),i3.1,i3.2,by rw[er hok (show k≤n by omega) i4];exact hx⟩)
      ·refine .inr ⟨i,by omega, ?_, ?_⟩
       ·rw[qP (by omega),hs.nx,n7 ho (by omega),i2,i5];rfl
       ·rw[← lab0 i (by omega),er hok (show k≤n by omega) i4];exact hx
    ·rintro ((hx | ⟨v,hv,v1,v2,hx⟩) | ⟨t,ht,t1,hx⟩)
     ·exact .inl hx
     ·rcases hv with (hv | hv) | hv
      ·have v3:=((bF hok (show k≤n by omega)).1 hv.2).1
       exact .inr ⟨v,List.mem_filter.2 ⟨hv.2,by simp [Osd.off,v1,v2]⟩,by rw[← er hok (show k≤n by omega) v3];exact hx⟩
      ·exact absurd hv v1
      ·exact absurd hv v2
     ·rw[qP ht,hs.nx,n7 ho (by omega)]at t1
      have t2:(Osd.off (stA F k) (stB F k) t&&(ordS N F k).alive t)=true:=by simpa using t1
      rw[Bool.and_eq_true]at t2
      refine .inr ⟨t,List.mem_filter.2 ⟨(bF hok (show k≤n by omega)).2 ⟨by omega,t2.2⟩,t2.1⟩, ?_⟩
      rw[← er hok (show k≤n by omega) (show t<N.ts.length+k by omega),lab0 t ht];exact hx)
   (by
    rw[vl (n:=n) (k:=k+1) (by omega) (show N.ts.length+k<N.ts.length+(k+1)by omega),Sem.tA,if_pos rfl,vl (n:=n) (k:=k) (by omega) vA,vl (n:=n) (k:=k) (by omega) vB,hres])
   ⟨tA1,tA2,tB1,tB2,tW2,lnd⟩
  refine⟨p1.congr (fun v=> ?_) rfl,fun j hj=> ?_⟩
  ·rw[hnx,List.mem_append,List.mem_filter,List.mem_singleton]
   constructor
   ·rintro (⟨(h3 | h3) | h3,h4,h5⟩ | h3)
    ·exact⟨h3.1,.inl ⟨h3.2,by simp [Osd.off,h4,h5]⟩⟩
    ·exact absurd h3 h4
    ·exact absurd h3 h5
    ·exact⟨by omega,.inr h3⟩
   ·rintro⟨h3,h4 | h4⟩
    ·have h5:v≠stA F k∧v≠stB F k:=by simpa [Osd.off]using h4.2
     exact .inl ⟨.inl (.inl ⟨h3,h4.1⟩),h5.1,h5.2⟩
    ·exact .inr h4
  ·obtain rfl:j=k:=by omega
   rw[hcl]
   exact p2
end
def cmpZ (N:Net) (n:Nat) (F:List Int):Cmp:=if n=0 then aq N.ts.length (cmpS N n F 0) 0 else cmpS N n F n
def cmpA (N:Net) (n:Nat) (F:List Int):Nat:=if n=0 then cN N.ts.length (cmpS N n F 0) 0 else cmpL N n F (n-1)
def aV (N:Net) (n:Nat) (F:List Int):List Opn:=(cmpZ N n F).ops++[⟨3,cmpA N n F,0,0,[]⟩]
section
variable {N : Net} {wd n : Nat} {F : List Int}
theorem zN (hN:Gen6 N) (hok:aX N n F=true) (hw:ai N.rg=wd) (hm:0<N.ts.length):
  Stt N wd (cmpZ N n F).R (N.ts.length+n+1) (ordS N F n).lab (Sem.tA N wd F n) (aV N n F) (fun v=>v=N.ts.length+n-1) (cmpZ N n F) (List.replicate N.ts.length true)∧
  (cmpZ N n F).ct.getD (cmpA N n F) (-1)=((N.ts.length+n-1:Nat):Int):=by
 have h1:=(aR.1 hok).2.1
 by_cases h0:n=0
 ·have hm1:N.ts.length=1:=by omega
  have eZ:cmpZ N n F=aq N.ts.length (cmpS N n F 0) 0:=if_pos h0
  have eA:cmpA N n F=cN N.ts.length (cmpS N n F 0) 0:=if_pos h0
  have hn0:(ordS N F 0).nums=List.range N.ts.length:=Sem.iQ N.ts
  have eO:aV N n F=(aq N.ts.length (cmpS N n F 0) 0).ops++[⟨3,cmpA N n F,0,0,[]⟩]:=by unfold aV;rw[eZ]
  rw[eZ,eA]
  have hc0:(cmpS N n F 0).ops=[]:=rfl
  have hl:=oh N.ts.length (cmpS N n F 0) 0
  obtain⟨h,_⟩:=sA hN hok hw (ops:=aV N n F) (R0:=(aq N.ts.length (cmpS N n F 0) 0).R) 0 (by omega) (aV N n F) (by unfold aV;simp) (by rw[hc0];rfl) (yZ _ _ _)
  have hv:if N.ts.length≤0 then (N.ts.length≤0∧0∈(ordS N F 0).nums) else ¬ (N.ts.length≤0∧0∈(ordS N F 0).nums):=by rw[if_neg (by omega)];omega
  have hld:(ldS N F 0).getD 0 true=false:=by
   rw[qP (by omega),((bF hok (Nat.zero_le n)).1 (by rw[hn0];exact List.mem_range.2 hm)).2]
   rfl
  have g:=h.load (v:=0) (by rw[if_neg (by omega)]at hv ⊢;exact⟨hv,hld⟩) (by omega) eO (by simp) (Nat.le_refl _)
   (fun hv=>by rw[er hok (Nat.zero_le n) (by omega)];exact Sem.lO hv) (fun hv=>by rw[vl (Nat.zero_le n) (by omega)];rfl)
  refine⟨g.congr (fun v=>⟨fun hh=> ?_,fun hh=>.inr (by omega)⟩) ?_, ?_⟩
  ·rcases hh with ⟨h2,h3⟩ | h2
   ·rw[hn0]at h3
    have:=List.mem_range.1 h3
    omega
   ·omega
  ·unfold cP
   rw[if_neg (by omega)]
   have hl0:(ldS N F 0).length=1:=by simp [ldS,hm1]
   apply List.ext_getElem
   ·simp [hl0,hm1]
   intro i i1 i2
   have:i=0:=by simp [hl0]at i1;omega
   subst this
   simp
  ·obtain⟨_,a2,_⟩:=h.cst.load hv (by omega)
   rw[a2]
   omega
 ·have eZ:cmpZ N n F=cmpS N n F n:=if_neg h0
  have eA:cmpA N n F=cmpL N n F (n-1):=if_neg h0
  rw[eZ,eA]
  obtain⟨h,h2⟩:=sA hN hok hw (ops:=aV N n F) (R0:=(cmpS N n F n).R) n (Nat.le_refl _) [⟨3,cmpA N n F,0,0,[]⟩] (by simp) (by unfold aV;rw[eZ]) (Nat.le_refl _)
  have hnum:=(Sem.o4 hok hw hm).2.2.1
  refine⟨h.congr (fun v=> ?_) ?_, ?_⟩
  ·rw[hnum,List.mem_singleton]
   omega
  ·apply List.ext_getElem
   ·simp [ldS]
   intro t i1 i2
   have ht:t<N.ts.length:=by simpa [ldS]using i1
   have:(ordS N F n).alive t=false:=by
    cases hc:(ordS N F n).alive t
    ·rfl
    ·have:=(bF hok (Nat.le_refl n)).2 ⟨show t<N.ts.length+n by omega,hc⟩
     rw[hnum,List.mem_singleton]at this
     omega
   simp [ldS,this]
  ·rw[h2 (n-1) (by omega)]
   congr 1
   omega
theorem sy (hN:Gen6 N) (hok:aX N n F=true) (hw:ai N.rg=wd) (hm:0<N.ts.length) (hm2:N.ts.length≤11):
  cl N (cmpZ N n F).R (aV N n F)=true∧cmpA N n F<(cmpZ N n F).R∧(cmpZ N n F).R≤24:=by
 obtain⟨h,hA⟩:=zN hN hok hw hm
 have h1:=(aR.1 hok).2.1
 have hreg:=h.cst.reg _ (show 0≤(cmpZ N n F).ct.getD (cmpA N n F) (-1)by omega)
 have hle:=h.cst.le
 refine⟨?_,hreg,by omega⟩
 have hl:(aV N n F).length=(cmpZ N n F).ops.length+1:=by unfold aV;simp
 have hlast:(aV N n F).getD (cmpZ N n F).ops.length ⟨3,0,0,0,[]⟩=⟨3,cmpA N n F,0,0,[]⟩:=by unfold aV;exact se (rest:=[])
 have hout:outB (bq (cmpZ N n F).R (ordS N F n).lab (cmpZ N n F).ct (List.replicate N.ts.length true)) ⟨3,cmpA N n F,0,0,[]⟩=true:=by
  unfold outB
  have e1:opIn (bq (cmpZ N n F).R (ordS N F n).lab (cmpZ N n F).ct (List.replicate N.ts.length true)) (cmpA N n F)=true:=decide_eq_true (by rw[dO];exact hreg)
  have e2:(bq (cmpZ N n F).R (ordS N F n).lab (cmpZ N n F).ct (List.replicate N.ts.length true)).ld.all id=true:=by
   show (List.replicate N.ts.length true).all id=true
   simp
  simp only[e1,e2,zn,decide_true,Bool.true_and,Bool.and_true]
  refine decide_eq_true fun i hi=> ?_
  rw[dO]at hi
  rw[od hi]
  by_cases e:i=cmpA N n F
  ·rw[decide_eq_true e]
   exact decide_eq_true (by rw[e];omega)
  ·rw[decide_eq_false e]
   refine decide_eq_false fun h0=>e ?_
   rcases h.cst.ent i with e3 | ⟨v,e3,hv⟩
   ·omega
   ·exact h.cst.inj i _ h0 (by rw[e3,hA,hv])
 unfold cl
 rw[hN.ok,hl]
 simp only[mTo,h.run,hlast,Bool.true_and,Bool.and_true,Bool.and_eq_true]
 refine⟨decide_eq_true ⟨hm,by omega,by omega,by omega⟩, ?_, ?_⟩
 ·unfold okB
  rw[if_neg (show ¬ (3:Nat)=1 by decide),if_neg (show ¬ (3:Nat)=2 by decide)]
  exact hout
 ·rw[hl]
  simp
theorem EN {R:Nat} {ops:List Opn} (h:cl N R ops=true):∃ o rest,ops=o :: rest∧o.kind=1:=by
 have h':=h
 simp only[cl,Bool.and_eq_true,decide_eq_true_eq]at h
 obtain⟨⟨_,hm,_,_,hl⟩,h2⟩:=h
 cases ops with
 | nil=>simp at hl
 | cons o rest=>
  refine⟨o,rest,rfl, ?_⟩
  have h3:=(mH h2 (show 0<(o :: rest).length by simp)).1
  have e0:(o :: rest).getD 0 ⟨3,0,0,0,[]⟩=o:=rfl
  rw[e0,show (mTo N (o :: rest) (m0 N R) 0).1=m0 N R from rfl]at h3
  false_or_by_contra
  rename_i hk
  unfold okB at h3
  rw[if_neg hk]at h3
  split at h3
  ·unfold nY at h3
   simp only[Bool.and_eq_true]at h3
   have h4:=h3.1.1.1.2
   unfold Mch.full m0 at h4
   simp only[zq,List.getElem?_replicate]at h4
   split at h4<;>simp at h4
  ·unfold outB at h3
   simp only[Bool.and_eq_true]at h3
   have h4:=List.all_eq_true.1 h3.2 false (by show false∈List.replicate N.ts.length false;rw[List.mem_replicate];exact⟨by omega,rfl⟩)
   simp at h4
def rTop (s:Cmp):Prop:=s.R=0∨∃ o∈s.ops,o.A+1=s.R
theorem rTop.load {s:Cmp} (h:rTop s) (m v:Nat):rTop (aq m s v):=by
 unfold aq
 split
 ·exact h
 ·right
  show ∃ o∈s.ops++[⟨1,lowE s.ct,v,0,[]⟩],o.A+1=max s.R (lowE s.ct+1)
  rcases Nat.lt_or_ge s.R (lowE s.ct+1)with h1 | h1
  ·exact⟨_,List.mem_append_right _ (List.mem_singleton.2 rfl),by rw[Nat.max_eq_right (by omega)]⟩
  ·rcases h with h | ⟨o,h2,h3⟩
   ·omega
   ·exact⟨o,List.mem_append_left _ h2,by rw[Nat.max_eq_left h1];exact h3⟩
theorem rTop.pair {s:Cmp} (h:rTop s) (w a b:Nat) (L:List Int):rTop (dq s w a b L):=by
 right
 show ∃ o∈s.ops++[⟨2,lowE s.ct,a,b,L⟩],o.A+1=max s.R (lowE s.ct+1)
 rcases Nat.lt_or_ge s.R (lowE s.ct+1)with h1 | h1
 ·exact⟨_,List.mem_append_right _ (List.mem_singleton.2 rfl),by rw[Nat.max_eq_right (by omega)]⟩
 ·rcases h with h | ⟨o,h2,h3⟩
  ·omega
  ·exact⟨o,List.mem_append_left _ h2,by rw[Nat.max_eq_left h1];exact h3⟩
theorem yR:∀ k,rTop (cmpS N n F k)
 | 0=>.inl rfl
 | k+1=>(((yR k).load _ _).load _ _).pair _ _ _ _
theorem FG:rTop (cmpZ N n F):=by
 unfold cmpZ
 split
 ·exact(yR 0).load _ _
 ·exact yR n
theorem EM (hR:1≤(cmpZ N n F).R):cl N ((cmpZ N n F).R-1) (aV N n F)=false:=by
 cases hc:cl N ((cmpZ N n F).R-1) (aV N n F)
 ·rfl
 exfalso
 rcases FG (N:=N) (n:=n) (F:=F)with h | ⟨o,h1,h2⟩
 ·omega
 ·have:=Bk hc (List.mem_append_left _ h1)
  omega
theorem Bl {m v:Nat} {l:List Bool} (h:m≤v∨(v<l.length∧l.getD v true=false)):(cP m l v).count false+(if m≤v then 0 else 1)=l.count false:=by
 unfold cP
 by_cases e:m≤v
 ·rw[if_pos e,if_pos e];rfl
 ·rw[if_neg e,if_neg e]
  obtain⟨h1,h2⟩:=h.resolve_left e
  have h3:l[v]=false:=by rw[zq,zg h1]at h2;exact h2
  have hp:0<l.count false:=List.count_pos_iff.2 (h3 ▸ List.getElem_mem h1)
  rw[List.count_set h1,h3]
  simp
  omega
theorem ol (m:Nat) (s:Cmp) (v:Nat):(aq m s v).ops.length=s.ops.length+(if m≤v then 0 else 1):=by
 rw[oh]
 split<;>simp
theorem BP (hok:aX N n F=true):∀ k,k≤n→(cmpS N n F k).ops.length+(ldS N F k).count false=k+N.ts.length
 | 0,_=>by
  have hn0:(ordS N F 0).nums=List.range N.ts.length:=Sem.iQ N.ts
  have hld:ldS N F 0=List.replicate N.ts.length false:=by
   apply List.ext_getElem
   ·simp [ldS]
   intro i h1 h2
   have hi:i<N.ts.length:=by simpa using h2
   have:(ordS N F 0).alive i=true:=((bF hok (Nat.zero_le n)).1 (by rw[hn0];simpa using hi)).2
   simp [ldS,this]
  rw[hld]
  simp [cmpS]
 | k+1,hk=>by
  have ih:=BP hok k (by omega)
  have hs:=dN hok (show k<n by omega)
  have hne:stA F k≠stB F k:=by have:=hs.lt;omega
  obtain⟨vA,wA⟩:=(bF hok (show k≤n by omega)).1 hs.ma
  obtain⟨vB,wB⟩:=(bF hok (show k≤n by omega)).1 hs.mb
  have hl0:(ldS N F k).length=N.ts.length:=by simp [ldS]
  have c1:=Bl (m:=N.ts.length) (v:=stA F k) (l:=ldS N F k) (by
   rcases Nat.lt_or_ge (stA F k) N.ts.length with h | h
   ·exact .inr ⟨by omega,by rw[qP h,wA];rfl⟩
   ·exact .inl h)
  have hlen:∀ (l:List Bool) v,(cP N.ts.length l v).length=l.length:=fun l v=>by unfold cP;split<;>simp
  have c2:=Bl (m:=N.ts.length) (v:=stB F k) (l:=cP N.ts.length (ldS N F k) (stA F k)) (by
   rcases Nat.lt_or_ge (stB F k) N.ts.length with h | h
   ·refine .inr ⟨by rw[hlen];omega, ?_⟩
    have hb0:(ldS N F k).getD (stB F k) true=false:=by rw[qP h,wB];rfl
    unfold cP
    split
    ·exact hb0
    ·rw[zq,List.getElem?_set,if_neg hne, ← zq]
     exact hb0
   ·exact .inl h)
  rw[D1 hok hk]at c2
  have e:(cmpS N n F (k+1)).ops.length=(aq N.ts.length (aq N.ts.length (cmpS N n F k) (stA F k)) (stB F k)).ops.length+1:=by
   show (_++[_]:List Opn).length=_
   rw[List.length_append]
   rfl
  rw[e,ol,ol]
  omega
theorem wP (hN:Gen6 N) (hok:aX N n F=true) (hw:ai N.rg=wd) (hm:0<N.ts.length):(aV N n F).length=2*N.ts.length:=by
 have h1:=(aR.1 hok).2.1
 unfold aV
 rw[List.length_append,List.length_singleton]
 by_cases h0:n=0
 ·have eZ:cmpZ N n F=aq N.ts.length (cmpS N n F 0) 0:=if_pos h0
  rw[eZ,ol,if_neg (by omega)]
  show 0+1+1=_
  omega
 ·have eZ:cmpZ N n F=cmpS N n F n:=if_neg h0
  rw[eZ]
  have h:=BP hok n (Nat.le_refl n)
  have hnum:=(Sem.o4 hok hw hm).2.2.1
  have hz:(ldS N F n).count false=0:=by
   rw[List.count_eq_zero]
   intro hc
   obtain⟨t,ht,e⟩:=List.mem_map.1 hc
   have ht':=List.mem_range.1 ht
   have:=(bF hok (Nat.le_refl n)).2 ⟨show t<N.ts.length+n by omega,by simpa using e⟩
   rw[hnum,List.mem_singleton]at this
   omega
  omega
end
structure CmpAt (m W:Nat) (s:Cmp) (A B:Nat):Prop where
 l0:s.ct.length=W
 l1:(aq m s A).ct.length=W
 l2:(aq m (aq m s A) B).ct.length=W
 pa:if m≤A then posE s.ct A<W else lowE s.ct<W
 pb:if m≤B then posE (aq m s A).ct B<W else lowE (aq m s A).ct<W
 lo:lowE (aq m (aq m s A) B).ct<W
 ra:cN m s A<W
 rb:cN m (aq m s A) B<W
 r0:s.R≤W
 r1:(aq m s A).R≤W
 r2:(aq m (aq m s A) B).R≤W
theorem Cst.asks {W:Nat} {P:Nat→Prop} {s:Cmp} (h:Cst W P s) {m v:Nat} (hv:if m≤v then P v else ¬ P v) (hb:v+1<W):if m≤v then posE s.ct v<W else lowE s.ct<W:=by
 split
 ·rename_i e
  rw[if_pos e]at hv
  exact(h.pos hv).1
 ·exact(h.low (by omega)).1
theorem L8 {N:Net} {wd n:Nat} {F:List Int} (hN:Gen6 N) (hok:aX N n F=true) (hw:ai N.rg=wd) {k:Nat} (hk:k<n):
  CmpAt N.ts.length (N.ts.length+n+1) (cmpS N n F k) (stA F k) (stB F k):=by
 obtain⟨h,_⟩:=sA hN hok hw (ops:=(cmpS N n F k).ops++[⟨3,0,0,0,[]⟩]) (R0:=(cmpS N n F k).R) k (by omega) [⟨3,0,0,0,[]⟩] (by simp) rfl (Nat.le_refl _)
 have hs:=dN hok (show k<n by omega)
 have hne:stA F k≠stB F k:=by have:=hs.lt;omega
 obtain⟨vA,wA⟩:=(bF hok (show k≤n by omega)).1 hs.ma
 obtain⟨vB,wB⟩:=(bF hok (show k≤n by omega)).1 hs.mb
 generalize cmpS N n F k=s at*
 have hA':if N.ts.length≤stA F k then (N.ts.length≤stA F k∧stA F k∈(ordS N F k).nums) else ¬ (N.ts.length≤stA F k∧stA F k∈(ordS N F k).nums):=by
  split
  ·rename_i e;exact⟨e,hs.ma⟩
  ·rename_i e;exact fun h=>e h.1
 obtain⟨c1,a2,a3,a4,_⟩:=h.cst.load hA' (by omega)
 have hB':if N.ts.length≤stB F k then ((N.ts.length≤stB F k∧stB F k∈(ordS N F k).nums)∨stB F k=stA F k) else ¬ ((N.ts.length≤stB F k∧stB F k∈(ordS N F k).nums)∨stB F k=stA F k):=by
  split
  ·rename_i e;exact .inl ⟨e,hs.mb⟩
  ·rename_i e;exact fun h=>h.elim (fun h=>e h.1) (fun h=>hne h.symm)
 obtain⟨c2,b2,b3,b4,_⟩:=c1.load hB' (by omega)
 exact⟨h.cst.len,c1.len,c2.len,h.cst.asks hA' (by omega),c1.asks hB' (by omega),(c2.low (by omega)).1,a3,b3,h.cst.le,c1.le,c2.le⟩
def InL (N:Net) (l:List Int):Prop:=l.Nodup∧∀ x∈l,∃ t∈N.ts,x∈t.labels
def psz (N:Net) (l:List Int):Int:=aa (l.map (atT (aK N.ts).1))
def fD (N:Net) (M:Mch):Nat→Int
 | 0=>0
 | k+1=>fD N M k+if M.full k=true then psz N (M.lb k) else 0
def totM (N:Net) (M:Mch):Int:=fD N M M.rg.length
def pkC (N:Net) (R:Nat) (ops:List Opn):Nat→Int
 | 0=>0
 | k+1=>max (if (ops.getD k o3).kind=2 then max (pkC N R ops k) (totM N (mTo N ops (m0 N R) k).1+psz N (exL N (mTo N ops (m0 N R) k).1 (ops.getD k o3))) else pkC N R ops k) (totM N (mTo N ops (m0 N R) (k+1)).1)
section
variable {N : Net} {wd n R : Nat} {F : List Int} {ops : List Opn}
theorem InL.nil:InL N []:=⟨List.nodup_nil,fun x hx=>by cases hx⟩
theorem InL.six (hN:Gen6 N) {l:List Int} (h:InL N l):∀ x∈l,0≤x∧x<6:=fun x hx=>by
 obtain⟨t,ht,hx'⟩:=h.2 x hx
 exact(hN.six t ht).bd x hx'
theorem InL.at (hN:Gen6 N) {l:List Int} (h:InL N l):∀ x∈l,atT (aK N.ts).1 x=dimL x:=fun x hx=>by
 obtain⟨t,ht,hx'⟩:=h.2 x hx
 have h6:=h.six hN x hx
 rw[(sw (bZ hN.ok)).2 ((sw (bZ hN.ok)).1.2 (an.1 hN.ok).2.2.2.1) x (by omega)]
 exact wM hN.six ht hx'
theorem InL.map (hN:Gen6 N) {l:List Int} (h:InL N l):l.map (atT (aK N.ts).1)=bu l:=List.map_congr_left fun x hx=>h.at hN x hx
theorem InL.len (hN:Gen6 N) {l:List Int} (h:InL N l):l.length≤6:=len6 h.1 (h.six hN)
theorem InL.sz (hN:Gen6 N) {l:List Int} (h:InL N l):1≤psz N l∧psz N l≤729:=by
 unfold psz
 rw[h.map hN]
 exact⟨(j7 l).1,AB (h.len hN)⟩
theorem InL.join {a b:List Int} (ha:InL N a) (hb:InL N b):InL N (ao a b):=⟨uh ha.1 hb.1,fun x hx=>(bc.1 hx).elim (ha.2 x) (hb.2 x)⟩
theorem InL.filt {a:List Int} (ha:InL N a) (p:Int→Bool):InL N (a.filter p):=⟨ha.1.filter p,fun x hx=>ha.2 x (List.mem_filter.1 hx).1⟩
theorem InL.ten (hN:Gen6 N) (k:Nat):InL N (N.ts.getD k ⟨[],[],[]⟩).labels:=by
 rcases Nat.lt_or_ge k N.ts.length with h | h
 ·have e:N.ts.getD k ⟨[],[],[]⟩=N.ts[k]:=by simp [h]
  rw[e]
  exact⟨(hN.six _ (List.getElem_mem h)).nd,fun x hx=>⟨_,List.getElem_mem h,hx⟩⟩
 ·have e:N.ts.getD k ⟨[],[],[]⟩=⟨[],[],[]⟩:=by simp [zq,List.getElem?_eq_none h]
  rw[e]
  exact InL.nil
theorem D4 (hN:Gen6 N) {M:Mch} (h:∀ i,InL N (M.lb i)) (o:Opn):InL N (exL N M o):=by
 unfold exL
 split
 ·exact InL.ten hN _
 ·split
  ·exact((h o.B).join (h o.C)).filt _
  ·exact InL.nil
theorem wv {l:List (Bool × List Int)} {j:Nat} {v:Bool × List Int} (h:∀ i,InL N (l.getD i (false,[])).2) (hv:InL N v.2):∀ i,InL N ((l.set j v).getD i (false,[])).2:=fun i=>by
 rw[zq,List.getElem?_set]
 split
 ·split
  ·exact hv
  ·exact InL.nil
 ·rw[← zq]
  exact h i
theorem IP (hN:Gen6 N) {M:Mch} (h:∀ i,InL N (M.lb i)) (o:Opn):∀ i,InL N ((exec N M o).lb i):=by
 have hx:=D4 hN h o
 unfold exec
 split
 ·exact wv h hx
 ·split
  ·exact wv (wv (wv h InL.nil) InL.nil) hx
  ·exact wv h InL.nil
theorem oF (hN:Gen6 N):∀ k i,InL N ((mTo N ops (m0 N R) k).1.lb i)
 | 0,i=>by
  have:(m0 N R).lb i=[]:=by
   unfold Mch.lb m0
   rw[zq,List.getElem?_replicate]
   split<;>rfl
  show InL N ((m0 N R).lb i)
  rw[this]
  exact InL.nil
 | k+1,i=>IP hN (oF hN k) _ i
theorem lD (hN:Gen6 N) {M:Mch} (h:∀ i,InL N (M.lb i)):∀ k,0≤fD N M k∧fD N M k≤k*729
 | 0=>by simp [fD]
 | k+1=>by
  have ih:=lD hN h k
  have h1:=(h k).sz hN
  rw[fD]
  split<;>omega
theorem A7 (hN:Gen6 N) {M:Mch} (h:∀ i,InL N (M.lb i)) {i:Nat} (hf:M.full i=true):∀ k,i<k→psz N (M.lb i)≤fD N M k
 | 0,hk=>by omega
 | k+1,hk=>by
  rw[fD]
  by_cases e:i=k
  ·subst e
   have:=lD hN h i
   rw[if_pos hf]
   omega
  ·have ih:=A7 hN h hf k (by omega)
   have h1:=(h k).sz hN
   split<;>omega
theorem AD {k:Nat}:∀ d,pkC N R ops k≤pkC N R ops (k+d)
 | 0=>Int.le_refl _
 | d+1=>by
  have ih:pkC N R ops k≤pkC N R ops (k+d):=AD d
  rw[← Nat.add_assoc,pkC]
  split<;>omega
theorem BE (hN:Gen6 N) (hR:R≤24):∀ k,0≤pkC N R ops k∧pkC N R ops k≤20000
 | 0=>by simp [pkC]
 | k+1=>by
  have ih:=BE hN hR k
  have h1:=lD hN (oF (ops:=ops) (R:=R) hN k) (mTo N ops (m0 N R) k).1.rg.length
  have h2:=lD hN (oF (ops:=ops) (R:=R) hN (k+1)) (mTo N ops (m0 N R) (k+1)).1.rg.length
  have l1:=(iw (N:=N) (ops:=ops) (m:=m0 N R) k).1
  have l2:=(iw (N:=N) (ops:=ops) (m:=m0 N R) (k+1)).1
  have l0:(m0 N R).rg.length=R:=by simp [m0]
  have h3:=(D4 hN (oF (ops:=ops) (R:=R) hN k) (ops.getD k o3)).sz hN
  rw[pkC]
  unfold totM
  split<;>omega
theorem FK (hN:Gen6 N) (hc:cl N R ops=true) {k:Nat} (hk:k<ops.length) (h3:(ops.getD k o3).kind=1∨(ops.getD k o3).kind=2):psz N (exL N (mTo N ops (m0 N R) k).1 (ops.getD k o3))≤pkC N R ops ops.length:=by
 have hA:(ops.getD k o3).A<R:=Bk hc (by rw[zq,zg hk];exact List.getElem_mem hk)
 have l1:=(iw (N:=N) (ops:=ops) (m:=m0 N R) k).1
 have l2:=(iw (N:=N) (ops:=ops) (m:=m0 N R) (k+1)).1
 have l0:(m0 N R).rg.length=R:=by simp [m0]
 have hM:(mTo N ops (m0 N R) (k+1)).1=exec N (mTo N ops (m0 N R) k).1 (ops.getD k o3):=rfl
 have hset:∀ (l:List (Bool × List Int)) v,l.length=R→(l.set (ops.getD k o3).A v).getD (ops.getD k o3).A (false,[])=v:=fun l v hl=>by rw[sd (by omega),if_pos rfl]
 have key:(mTo N ops (m0 N R) (k+1)).1.full (ops.getD k o3).A=true∧(mTo N ops (m0 N R) (k+1)).1.lb (ops.getD k o3).A=exL N (mTo N ops (m0 N R) k).1 (ops.getD k o3):=by
  rw[hM]
  unfold exec Mch.full Mch.lb
  rcases h3 with h3 | h3
  ·rw[if_pos h3,hset _ _ (by omega)]
   exact⟨rfl,rfl⟩
  ·rw[if_neg (by omega),if_pos h3,hset _ _ (by simp only[List.length_set];omega)]
   exact⟨rfl,rfl⟩
 have h4:=A7 hN (oF (ops:=ops) (R:=R) hN (k+1)) key.1 (mTo N ops (m0 N R) (k+1)).1.rg.length (by omega)
 rw[key.2]at h4
 have h5:totM N (mTo N ops (m0 N R) (k+1)).1≤pkC N R ops (k+1):=by rw[pkC];exact Int.le_max_right _ _
 have h6:=AD (N:=N) (R:=R) (ops:=ops) (k:=k+1) (ops.length-(k+1))
 rw[show k+1+(ops.length-(k+1))=ops.length by omega]at h6
 unfold totM at h5
 omega
theorem CK:∀ k,k≤n→∀ j,j<k→∃ o∈(cmpS N n F k).ops,o.kind=2∧o.L=(ordS N F (j+1)).lab (N.ts.length+j)
 | 0,_,j,hj=>by omega
 | k+1,hk,j,hj=>by
  by_cases e:j=k
  ·subst e
   exact⟨_,List.mem_append_right _ (List.mem_singleton.2 rfl),rfl,rfl⟩
  ·obtain⟨o,h1,h2⟩:=CK k (by omega) j (by omega)
   obtain⟨X,hX⟩:=AG N n F k
   exact⟨o,by rw[hX];exact List.mem_append_left _ h1,h2⟩
theorem Il (hN:Gen6 N) (hok:aX N n F=true) (hw:ai N.rg=wd) (hm:0<N.ts.length) (hm2:N.ts.length≤11):
  eG N n F≤pkC N (cmpZ N n F).R (aV N n F) (aV N n F).length:=by
 obtain⟨hc,hA,hR⟩:=sy hN hok hw hm hm2
 have hc':=hc
 simp only[cl,Bool.and_eq_true,decide_eq_true_eq]at hc'
 obtain⟨⟨_,_,_,_,hl0⟩,hrun⟩:=hc'
 have ho:=(fi hok n (Nat.le_refl n)).ok
 have hgk:∀ k (h:k<(aV N n F).length),(aV N n F).getD k o3=(aV N n F)[k]:=fun k h=>by simp [zq,h]
 have h1:=(aR.1 hok).2.1
 have key:∀ v,v<N.ts.length+n→psz N ((ordS N F n).lab v)≤pkC N (cmpZ N n F).R (aV N n F) (aV N n F).length:=fun v hv=>by
  rcases Nat.lt_or_ge v N.ts.length with h | h
  ·have hlast:=mH hrun (show (aV N n F).length-1<(aV N n F).length by omega)
   have hl:(aV N n F).length=(cmpZ N n F).ops.length+1:=by unfold aV;simp
   obtain⟨hS,_⟩:=zN hN hok hw hm
   have hld:(mTo N (aV N n F) (m0 N (cmpZ N n F).R) (cmpZ N n F).ops.length).1.ld.getD v true=true:=by
    rw[hS.run]
    simp [bq,zq,h]
   rcases z3 (N:=N) (ops:=aV N n F) (m:=m0 N (cmpZ N n F).R) (t:=v) (by simp [m0,h]) _ (by omega) hld with h2 | ⟨j,hj,_,h3,h4⟩
   ·simp [m0,zq,h]at h2
   ·have h5:=FK hN hc hj (.inl (by rw[hgk j hj];exact h3))
    unfold exL at h5
    rw[hgk j hj,if_pos h3,h4]at h5
    rw[er hok (Nat.zero_le n) (by omega)]
    rw[show (ordS N F 0).lab v=(N.ts.getD v t0).labels from Sem.lO h]
    exact h5
  ·obtain⟨o,h2,h3,h4⟩:=CK (N:=N) (n:=n) (F:=F) n (Nat.le_refl n) (v-N.ts.length) (by omega)
   have h5:o∈aV N n F:=by
    have eZ:cmpZ N n F=cmpS N n F n:=if_neg (by omega)
    unfold aV
    rw[eZ]
    exact List.mem_append_left _ h2
   obtain⟨j,hj,rfl⟩:=List.getElem_of_mem h5
   have h6:=FK hN hc hj (.inr (by rw[hgk j hj];exact h3))
   have h7:=(mH hrun hj).1
   have hgj:(aV N n F).getD j ⟨3,0,0,0,[]⟩=(aV N n F)[j]:=hgk j hj
   rw[hgj]at h7
   unfold okB at h7
   rw[if_neg (by omega),if_pos h3]at h7
   unfold nY at h7
   simp only[Bool.and_eq_true]at h7
   have h8:∀ x∈(aV N n F)[j].L,x∈jnO (mTo N (aV N n F) (m0 N (cmpZ N n F).R) j).1 (aV N n F)[j]:=zd h7.1.2
   have hI:=D4 hN (oF (ops:=aV N n F) (R:=(cmpZ N n F).R) hN j) (aV N n F)[j]
   rw[hgk j hj]at h6
   refine Int.le_trans ?_ h6
   have hlab:(ordS N F n).lab v=(aV N n F)[j].L:=by
    rw[h4,er hok (show v-N.ts.length+1≤n by omega) (by omega)]
    rw[show N.ts.length+(v-N.ts.length)=v by omega]
   rw[hlab]
   obtain⟨t1,t2,t3⟩:=Sem.tA6 hN hok hw (Nat.le_refl n) hv
   have hnd:=t1.nd
   rw[t3,hlab]at hnd
   refine mC hnd (fun x hx=> ?_) fun x hx=>by rw[hI.at hN x hx];have:=gf (x:=x);omega
   unfold exL
   rw[if_neg (by omega),if_pos h3]
   exact List.mem_filter.2 ⟨h8 x hx,aI.2 hx⟩
 unfold eG
 rw[if_pos hok]
 have hone:1≤pkC N (cmpZ N n F).R (aV N n F) (aV N n F).length:=by
  have h2:=key 0 (by omega)
  have h3:1≤psz N ((ordS N F n).lab 0):=by
   rw[er hok (Nat.zero_le n) (by omega),show (ordS N F 0).lab 0=(N.ts.getD 0 t0).labels from Sem.lO hm]
   exact((InL.ten hN 0).sz hN).1
  omega
 have go:∀ (L:List (List Int)) (p x:Int),p≤x→(∀ l∈L,capP (aK N.ts).1 l≤x)→L.foldl (fun p l=>max p (capP (aK N.ts).1 l)) p≤x:=by
  intro L
  induction L with
  | nil=>intro p x h _;exact h
  | cons a L ih=>
   intro p x h1 h2
   rw[List.foldl_cons]
   exact ih _ _ (Int.max_le.2 ⟨h1,h2 a (by simp)⟩) fun l hl=>h2 l (by simp [hl])
 refine go _ 1 _ hone fun l hl=> ?_
 obtain⟨v,hv,rfl⟩:=List.getElem_of_mem hl
 have hn2:=ho.n
 have e:(ordS N F n).all[v]=(ordS N F n).lab v:=by simp [Osd.lab,hv]
 rw[e]
 have:=key v (by omega)
 unfold capP
 unfold psz at this
 omega
end
set_option maxRecDepth 100000
theorem H1 {P:Program} {f:FuncId} {args:List AV} {t:Ten} {g0 g1 g2:Bool} (h:Does P f args [] (ownT 0 t) [some ⟨1,g0,iv t.labels⟩,some ⟨1,g1,iv t.dims⟩,some ⟨1,g2,iv t.data⟩]):Does P f args [] (tenA t) []:=by
 have tk:∀ xs:List Int,List.take xs.length (dv xs)=dv xs:=fun xs=>zt (by rw[cU];exact Nat.le_refl _)
 have h1:Wk 0 [ownT 0 t] [some ⟨1,g0,iv t.labels⟩,some ⟨1,g1,iv t.dims⟩,some ⟨1,g2,iv t.data⟩] [tenA t] [none,none,none]:=by
  refine(Wk.freeze 0 (R:=⟨1,g0,iv t.labels⟩) (ls:=dv t.labels) (Nat.le_refl _) rfl cX (e':=[.agg [.d (ints t.labels),.own 1 0 t.dims.length,.own 2 0 t.data.length]]) (σ':=[none,some ⟨1,g1,iv t.dims⟩,some ⟨1,g2,iv t.data⟩]) ?_ ?_).trans ?_
  ·simp [mapL,mapA,fzG,ownT,ints,tk]
  ·simp [frz,ya,fzG]
  refine(Wk.freeze 1 (R:=⟨1,g1,iv t.dims⟩) (ls:=dv t.dims) (Nat.zero_le _) rfl cX (e':=[.agg [.d (ints t.labels),.d (ints t.dims),.own 2 0 t.data.length]]) (σ':=[none,none,some ⟨1,g2,iv t.data⟩]) ?_ ?_).trans ?_
  ·simp [mapL,mapA,fzG,ints,tk]
  ·simp [frz,ya,fzG]
  refine Wk.freeze 2 (R:=⟨1,g2,iv t.data⟩) (ls:=dv t.data) (Nat.zero_le _) rfl cX ?_ ?_
  ·simp [mapL,mapA,fzG,ints,tk,tenA]
  ·simp [frz,ya,fzG]
 have h2:=h.wk0 h1
 have:at_ [none,none,none]=at_ []:=by
  funext k
  match k with
  | 0=>rfl
  | 1=>rfl
  | 2=>rfl
  | k+3=>simp [at_]
 unfold Does at*
 rw[this]at h2
 exact h2
theorem DO {kk pp nn:Int} {wd:Nat} (hr:ah ⟨kk,pp,nn⟩=true) (hw:ai ⟨kk,pp,nn⟩=wd) (h1:1≤wd∧wd≤6):Does Tryz.prog 109 [bo kk pp nn] [] (.own 0 0 wd) [some ⟨1,true,iv (oneE ⟨kk,pp,nn⟩ wd)⟩]:=by
 have hlr:(List.replicate wd (0:Int)).length=wd:=List.length_replicate
 (refine spec_of (by kernel_rfl) Tryz.func109 xl (fnOk (nb rfl) ?_);unfold qx)
 (simp only[Nat.reduceSub,Zl,zn,Nat.reduceAdd,zF];try simp only[af]);(simp only[go_sem,seval,reduceCtorEq,List.replicate])
 (refine aA (fN kk pp nn) ?_ ?_ ?_;(focus (simp only[go_sem,seval,reduceCtorEq,hw];done));(first | rfl | (focus (simp only[go_sem];done))))
 simp(disch:=omega) only[go_sem,seval,reduceCtorEq,hw]
 refine And.intro ⟨by omega,by omega⟩ ?_
 by_cases h4:kk=4
 ·have c:(kk==4)=true:=by simp [h4]
  have e:oneE ⟨kk,pp,nn⟩ wd=(List.replicate wd 0).set 0 0:=by unfold oneE;rw[if_neg (by simp only;omega),if_pos h4]
  have e2:=gJ h1.1 0
  simp(disch:=omega) only[go_sem,seval,reduceCtorEq,c]
  refine⟨by omega,by rw[hlr];omega, ?_⟩
  rw[e2, ← e]
  (refine zE ?_ ?_<;>try simp only[go_sem,seval,reduceCtorEq])
 have c4:(kk==4)=false:=by simp [h4]
 by_cases h5:kk=5
 ·have c:(kk==5)=true:=by simp [h5]
  have ht:top ⟨kk,pp,nn⟩=pp:=by simp [top,h5]
  have e:oneE ⟨kk,pp,nn⟩ wd=(List.replicate wd 0).set 0 pp:=by unfold oneE;rw[if_pos (.inl h5),ht]
  have e2:=gJ h1.1 pp
  simp(disch:=omega) only[go_sem,seval,reduceCtorEq,c4,c]
  refine⟨by omega,by rw[hlr];omega, ?_⟩
  rw[e2, ← e]
  (refine zE ?_ ?_<;>try simp only[go_sem,seval,reduceCtorEq])
 have c5:(kk==5)=false:=by simp [h5]
 by_cases h6:kk=6
 ·have c:(kk==6)=true:=by simp [h6]
  have e:oneE ⟨kk,pp,nn⟩ wd=(List.replicate wd 0).set 0 (top ⟨kk,pp,nn⟩):=by unfold oneE;rw[if_pos (.inr h6)]
  have e2:=gJ h1.1 (top ⟨kk,pp,nn⟩)
  simp(disch:=omega) only[go_sem,seval,reduceCtorEq,c4,c5,c]
  (refine zC (Ay kk pp nn hr) ?_)
  simp(disch:=omega) only[go_sem,seval,reduceCtorEq]
  refine⟨by omega,by rw[hlr];omega, ?_⟩
  rw[e2, ← e]
  (refine zE ?_ ?_<;>try simp only[go_sem,seval,reduceCtorEq])
 have c6:(kk==6)=false:=by simp [h6]
 have e:oneE ⟨kk,pp,nn⟩ wd=(List.replicate wd 0).set 0 1:=by unfold oneE;rw[if_neg (fun h=>h.elim h5 h6),if_neg h4]
 have e2:=gJ h1.1 1
 simp(disch:=omega) only[go_sem,seval,reduceCtorEq,c4,c5,c6]
 refine⟨by omega,by rw[hlr];omega, ?_⟩
 rw[e2, ← e]
 (refine zE ?_ ?_<;>try simp only[go_sem,seval,reduceCtorEq])
theorem Ah {kk pp nn:Int} {wd:Nat} (hr:ah ⟨kk,pp,nn⟩=true) (hw:ai ⟨kk,pp,nn⟩=wd) (h1:1≤wd∧wd≤6):Does Tryz.prog 62 [bo kk pp nn] [] (tenA (Sem.eX ⟨kk,pp,nn⟩ wd)) []:=by
 have hol:=gK ⟨kk,pp,nn⟩ wd
 refine H1 (g0:=true) (g1:=true) (g2:=true) ?_
 unfold Sem.eX
 simp only[ownT,hol]
 (refine spec_of (by kernel_rfl) Tryz.func62 tq (fnOk (nb rfl) ?_);unfold mh)
 (simp only[Nat.reduceSub,Zl,zn,Nat.reduceAdd,zF];try simp only[af]);(simp only[go_sem,seval,reduceCtorEq,List.replicate])
 (refine zC (DO hr hw h1) ?_)
 simp(disch:=omega) only[go_sem,seval,reduceCtorEq]
 refine FnEnd.wk (Wk.trans (Wk.nilS 1 0 1 _ _ _ rfl rfl) (Wk.nilS 1 1 1 _ _ _ rfl rfl)) ?_
 (refine zE ?_ ?_<;>try simp only[go_sem,seval,reduceCtorEq])
theorem L7 {kk pp nn:Int} {a b:Ten} {keep:List Int} {wd:Nat} (hr:ah ⟨kk,pp,nn⟩=true) (hw:ai ⟨kk,pp,nn⟩=wd) (ha:TSz 1048576 a) (hb:TSz 1048576 b) (hk:Sz 1048576 keep) (hc:conB ⟨kk,pp,nn⟩ a b keep=true):
  Does Tryz.prog 32 [bo kk pp nn,tenA a,tenA b,.d (ints keep)] [] (.tup [ownT 0 (conR ⟨kk,pp,nn⟩ wd a b keep),.d (.bool true)]) (stoF (conR ⟨kk,pp,nn⟩ wd a b keep)):=by
 obtain⟨k1,k2,k3⟩:=vr hr
 have h:=uJ k1 k2 k3 ha hb hk
 have e:conT ⟨kk,pp,nn⟩ a b keep=conR ⟨kk,pp,nn⟩ wd a b keep:=by
  unfold conT
  rw[hc,hw]
  rfl
 rw[e,hc]at h
 exact h
theorem Ha {kk pp nn:Int} {a b:Ten} {keep:List Int} {wd:Nat} (hr:ah ⟨kk,pp,nn⟩=true) (hw:ai ⟨kk,pp,nn⟩=wd) (ha:TSz 1048576 a) (hb:TSz 1048576 b) (hk:Sz 1048576 keep) (hc:conB ⟨kk,pp,nn⟩ a b keep=true):
  Does Tryz.prog 32 [bo kk pp nn,tenA a,tenA b,.d (ints keep)] [] (.tup [tenA (conR ⟨kk,pp,nn⟩ wd a b keep),.d (.bool true)]) []:=wI (L7 hr hw ha hb hk hc)
theorem SumLabels_d {kk pp nn:Int} {t:Ten} {keep:List Int} {wd:Nat} (hr:ah ⟨kk,pp,nn⟩=true) (hw:ai ⟨kk,pp,nn⟩=wd) (ht:TSz 1048576 t) (hs:TSz 1048576 (Sem.eX ⟨kk,pp,nn⟩ wd)) (hk:Sz 1048576 keep) (hc:conB ⟨kk,pp,nn⟩ t (Sem.eX ⟨kk,pp,nn⟩ wd) keep=true):
  Does Tryz.prog 64 [bo kk pp nn,tenA t,.d (ints keep)] [] (tenA (conR ⟨kk,pp,nn⟩ wd t (Sem.eX ⟨kk,pp,nn⟩ wd) keep)) []:=by
 obtain⟨k1,k2,k3⟩:=vr hr
 have hok:aE ⟨kk,pp,nn⟩ t.labels t.dims t.data=true:=by
  simp only[conB,Bool.and_eq_true]at hc
  exact hc.1.1.1.1
 have hwb:=wd6 hr hw
 (refine spec_of (by kernel_rfl) Tryz.func64 tw (fnOk (nb rfl) ?_);unfold ml)
 (simp only[Nat.reduceSub,Zl,zn,Nat.reduceAdd,zF];try simp only[af]);(simp only[go_sem,seval,reduceCtorEq,List.replicate])
 (refine zC (eJ (t:=t) k1 k2 k3 ht.up) ?_)
 simp only[go_sem,seval,reduceCtorEq,hok]
 (refine zD (Ah hr hw hwb) ?_)
 simp only[go_sem,seval,reduceCtorEq]
 (refine zD (Ha hr hw ht hs hk hc) ?_)
 simp only[go_sem,seval,reduceCtorEq]
 (refine zE ?_ ?_<;>try simp only[go_sem,seval,reduceCtorEq])
end Go.Proofs.YtjfmckhbmdjnpaaGreat
