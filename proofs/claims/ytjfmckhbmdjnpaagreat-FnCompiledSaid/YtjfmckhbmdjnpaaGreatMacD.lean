/-
 Contracts: compiled code runs. No condition.
-/
import Derived.Test.YtjfmckhbmdjnpaaGreatMacB
import Derived.Test.YtjfmckhbmdjnpaaGreatCtrB
set_option linter.unusedSimpArgs false
set_option linter.unusedVariables false
namespace Go.Proofs.YtjfmckhbmdjnpaaGreat
open Go.RowKit Go.Lift Plain
set_option maxRecDepth 100000
theorem DJ (c:List Ten) (i:Nat):(rowD c).drop (i*3)=rowD (c.drop i):=by
 rcases Nat.lt_or_ge i c.length with h | h
 ·conv=>lhs;rw[← List.take_append_drop i c,rt]
  rw[List.drop_left' (by rw[eY,List.length_take];omega)]
 ·rw[List.drop_eq_nil_of_le h,List.drop_eq_nil_of_le (by rw[eY];omega)]
  rfl
theorem DI (c:List Ten) (i:Nat):(rowD c).take (i*3)=rowD (c.take i):=by
 rcases Nat.lt_or_ge i c.length with h | h
 ·conv=>lhs;rw[← List.take_append_drop i c,rt]
  rw[List.take_left' (by rw[eY,List.length_take];omega)]
 ·rw[zt h,zt (by rw[eY];omega)]
theorem Ao {c:List Ten} {i:Nat} (t:Ten) (h:i<c.length):(rowD c).take (i*3)++[.d (.sl t.labels.length (dv t.labels)),.d (.sl t.dims.length (dv t.dims)),.d (.sl t.data.length (dv t.data))]++(rowD c).drop (i*3+3)=rowD (c.set i t):=by
 rw[DI,show i*3+3=(i+1)*3 by omega,DJ,List.set_eq_take_append_cons_drop,if_pos h,rt,List.append_assoc]
 rfl
theorem Co (c:List Ten):(rowD c).all trB=true:=by
 refine List.all_eq_true.2 fun x hx=> ?_
 obtain⟨b,_,rfl⟩:=List.mem_map.1 hx
 rfl
theorem zW:∀ R,(Lift.bO R [.nil,.nil,.nil]).map nilC=rowD (List.replicate R t0)
 | 0=>rfl
 | R+1=>by
  have ih:=zW R
  have e:Lift.bO (R+1) [.nil,.nil,.nil]=[.nil,.nil,.nil]++Lift.bO R [.nil,.nil,.nil]:=by simp [Lift.bO,List.replicate_succ]
  rw[e,List.map_append,ih,List.replicate_succ,show t0 :: List.replicate R t0=[t0]++List.replicate R t0 from rfl,rt]
  rfl
structure CodeF (N:Net) (wd n:Nat) (F:List Int) (R Z A:Nat) (ops:List Opn):Prop where
 ok:cl N R ops=true
 len:ops.length=Z+1
 rb:R≤24
 ab:A<R
 oo:OpsOk ops
 kd:∀ j (h:j<ops.length),j<Z→(ops[j].kind=1∨ops[j].kind=2)∧ops[j].A<R∧(ops[j].kind=1→ops[j].B<N.ts.length)∧(ops[j].kind=2→ops[j].B<R∧ops[j].C<R∧PairOk N wd (cTo N wd ops R j) ops[j])
 last:∀ h:Z<ops.length,ops[Z]=⟨3,A,0,0,[]⟩
 con:(cTo N wd ops R Z).getD A t0=Sem.tA N wd F n (N.ts.length+n-1)
theorem M8 {N:Net} (hN:Gen6 N) {n:Nat} {F:List Int} {wd:Nat} (hw:ai N.rg=wd) (hok:aX N n F=true) (hm:0<N.ts.length) (hm2:N.ts.length≤11):
  CodeF N wd n F (cmpZ N n F).R (cmpZ N n F).ops.length (cmpA N n F) (aV N n F):=by
 obtain⟨h,hA⟩:=zN hN hok hw hm
 obtain⟨c1,c2,c3⟩:=sy hN hok hw hm hm2
 have hl:(aV N n F).length=(cmpZ N n F).ops.length+1:=by unfold aV;simp
 have hlen:=wP hN hok hw hm
 have hget:∀ j (h:j<(aV N n F).length) (hj:j<(cmpZ N n F).ops.length),(aV N n F)[j]=(cmpZ N n F).ops[j]:=fun j h hj=>by
  unfold aV
  exact List.getElem_append_left hj
 have hLz:∀ o∈(cmpZ N n F).ops,o.L.length≤6:=fun o ho=>by
  obtain⟨j,hj,rfl⟩:=List.getElem_of_mem ho
  obtain⟨k1,k2,k3,k4⟩:=h.kd _ ho
  rcases k1 with k1 | k1
  ·rw[(k3 k1).2.2];simp
  ·have:=h.prs j hj k1
   exact len6 this.ln this.l6
 have hmem:∀ o∈aV N n F,o∈(cmpZ N n F).ops∨o=⟨3,cmpA N n F,0,0,[]⟩:=fun o ho=>by
  unfold aV at ho
  rcases List.mem_append.1 ho with h | h
  ·exact .inl h
  ·exact .inr (List.mem_singleton.1 h)
 refine⟨c1,hl,c3,c2,⟨by omega,fun o ho=> ?_,fun o ho=> ?_,fun o ho=> ?_,fun o ho=> ?_,fun o ho=> ?_⟩,fun j hj hz=> ?_,fun hz=> ?_,h.con _ _ hA⟩
 ·rcases hmem o ho with h1 | rfl
  ·rcases(h.kd o h1).1 with h | h
   ·exact .inl h
   ·exact .inr (.inl h)
  ·exact .inr (.inr rfl)
 ·rcases hmem o ho with h1 | rfl
  ·have:=(h.kd o h1).2.1;omega
  ·show cmpA N n F≤1000;omega
 ·rcases hmem o ho with h1 | rfl
  ·obtain⟨k1,k2,k3,k4⟩:=h.kd o h1
   rcases k1 with k1 | k1
   ·have:=(k3 k1).1;omega
   ·have:=(k4 k1).1;omega
  ·exact Nat.zero_le _
 ·rcases hmem o ho with h1 | rfl
  ·obtain⟨k1,k2,k3,k4⟩:=h.kd o h1
   rcases k1 with k1 | k1
   ·have:=(k3 k1).2.1;omega
   ·have:=(k4 k1).2;omega
  ·exact Nat.zero_le _
 ·rcases hmem o ho with h1 | rfl
  ·have:=hLz o h1;omega
  ·exact Nat.zero_le _
 ·rw[hget j hj hz]
  obtain⟨k1,k2,k3,k4⟩:=h.kd _ (List.getElem_mem hz)
  exact⟨k1,k2,fun h1=>(k3 h1).1,fun h1=>⟨(k4 h1).1,(k4 h1).2,h.prs j hz h1⟩⟩
 ·have:=se (pre:=(cmpZ N n F).ops) (o:=⟨3,cmpA N n F,0,0,[]⟩) (rest:=[])
  have e:(aV N n F).getD (cmpZ N n F).ops.length o3=(aV N n F)[(cmpZ N n F).ops.length]:=by simp [zq,hz]
  rw[← e]
  exact this
set_option maxHeartbeats 6400000 in
theorem RunCode_d {N:Net} (hN:Gen6 N) {n:Nat} {F:List Int} {wd:Nat} (hw:ai N.rg=wd) (hok:aX N n F=true) (hm:0<N.ts.length) {R Z A:Nat} {ops:List Opn} (hC:CodeF N wd n F R Z A ops):
  Does Tryz.prog 9 [netA N,ii R ops] [] (.tup [tenA (Sem.nvR N wd),.d (.bool true)]) []:=by
 have hr:=(an.1 hN.ok).1
 have hR:=hC.rb
 have hl:=hC.len
 have hA:=hC.ab
 have hcok:=hC.ok
 have h12:=(an.1 hN.ok).2.1
 have hn1:=hC.oo.n
 obtain⟨v1,v2,v3,v4⟩:=Sem.o4 hok hw hm
 obtain⟨t1,t2,t3⟩:=Sem.tA6 hN hok hw (Nat.le_refl n) (show N.ts.length+n-1<N.ts.length+n by omega)
 have hfin:=FinishTensor_d hN hw t1 t2 v2
 rw[v4, ← hC.con]at hfin
 have hco:=CodeOk_d hN hC.oo (R:=R) (by omega)
 rw[hcok]at hco
 (refine spec_of (by kernel_rfl) Tryz.func9 wh (fnOk (nb rfl) ?_);unfold pK)
 simp only[netA,ii,tens]
 (simp only[Nat.reduceSub,Zl,zn,Nat.reduceAdd,zF];try simp only[af]);(simp only[go_sem,seval,reduceCtorEq,List.replicate])
 (refine aA (hco) ?_ ?_ ?_;(focus (simp only[go_sem,seval,reduceCtorEq,netA,ii,tens];done));(first | rfl | (focus (simp only[go_sem];done))))
 simp(disch:=omega) only[go_sem,seval,reduceCtorEq]
 (repeat (refine And.intro (by omega) ?_))
 refine ir (Wk.nilR 3 rfl) ?_
 simp only[go_sem,seval,reduceCtorEq,nilK,List.modify_succ_cons,List.modify_zero_cons,Option.map_some,zW]
 have hz:cTo N wd ops R 0=List.replicate R t0:=rfl
 refine bG (ops.length) (mkB 81 1208925819614629166319392) (fun k=>k≤Z) (fun k=>[(22,.d (.int k))]) (fun k=>[(3,rowD (cTo N wd ops R k))]) (hi:=Nat.zero_le _) (h1:=by first | (simp only[go_sem,seval,reduceCtorEq,nz,na,n1,hz];first | done | rfl) | rfl) (h2:=by first | (simp only[go_sem,seval,reduceCtorEq,nz,na,n1,hz];first | done | rfl) | rfl) (hr:=fun k hk hi=> ?_)
 unfold nA
 have hlt:k<ops.length:=by omega
 have d1:(k:Int)<ops.length:=by omega
 have g:=uY hlt
 have hcl:=vb (N:=N) (wd:=wd) (ops:=ops) (R0:=R) k
 have hgk:ops.getD k o3=ops[k]:=by simp [zq,hlt]
 by_cases hkz:k=Z
 ·subst hkz
  have el:=hC.last hlt
  have gA:(cTo N wd ops R k)[A]? =some ((cTo N wd ops R k).getD A t0):=by simp [zq,show A<(cTo N wd ops R k).length by omega]
  have g3:=vq gA
  rw[el]at g
  generalize cTo N wd ops R k=c at*
  generalize c.getD A t0=T at*
  generalize Sem.nvR N wd=V at*
  have q1:((3:Nat):Int)=3:=rfl
  have q0:((0:Nat):Int)=0:=rfl
  simp(disch:=omega) only[go_sem,seval,reduceCtorEq,d1,g,q1,q0]
  (repeat (refine And.intro (by omega) ?_))
  simp(disch:=omega) only[go_sem,seval,reduceCtorEq,eY,g3]
  (repeat (refine And.intro (by omega) ?_))
  (refine cE (hfin) ?_ ?_ ?_;(focus (simp only[go_sem,seval,reduceCtorEq,netA,tens];done));(first | rfl | (focus (simp only[go_sem];done))))
  simp(disch:=omega) only[go_sem,seval,reduceCtorEq]
  (refine zE ?_ ?_<;>try simp only[go_sem,seval,reduceCtorEq])
 ·have hkz':k<Z:=by omega
  obtain⟨kd,kA,k1b,k2b⟩:=hC.kd k hlt hkz'
  have kL:=hC.oo.L _ (List.getElem_mem hlt)
  have hnx:cTo N wd ops R (k+1)=uv N wd (cTo N wd ops R k) ops[k]:=by rw[cTo,hgk]
  generalize hod:ops[k]=o at*
  generalize cTo N wd ops R k=c at*
  have hI:k+1≤Z:=hkz'
  rcases kd with kd | kd
  ·have e1:((o.kind:Int)==1)=true:=by rw[beq_iff_eq];omega
   have gB:=k1b kd
   have gt:N.ts[o.B]? =some (N.ts.getD o.B t0):=by simp [gB]
   have g3:=iu gt
   rw[show uv N wd c o=c.set o.A (N.ts.getD o.B t0)from if_pos kd]at hnx
   generalize N.ts.getD o.B t0=T at*
   have p1:=Ao (c:=c) (i:=o.A) T (by omega)
   have tr:=sR (Co c)
   simp(disch:=omega) only[go_sem,seval,reduceCtorEq,d1,g,e1,g3,eY]
   (repeat (refine And.intro (by omega) ?_))
   refine⟨tr _ _, ?_⟩
   rw[p1]
   (refine NextI.drop (mkB 81 1208925819614629166319392) (by omega) (hI) (h1:= ?_) (h2:= ?_)<;>first | (simp only[go_sem,seval,reduceCtorEq,nz,na,n1,hnx];first | done | rfl) | rfl | skip)
  ·have e1:((o.kind:Int)==1)=false:=by rw[beq_eq_false_iff_ne];omega
   have e2:((o.kind:Int)==2)=true:=by rw[beq_iff_eq];omega
   obtain⟨gB,gC,pk⟩:=k2b kd
   have Az:=Sem.xx hr hw pk.a pk.a6
   have Bz:=Sem.xx hr hw pk.b pk.b6
   have hKz:=sz6 pk.ln pk.l6
   have hcp:=Ha (kk:=N.k) (pp:=N.p) (nn:=N.n) hr hw Az Bz hKz (Sem.JC hr hw pk.a pk.b pk.a6 pk.b6 o.L).1
   rw[show (⟨N.k,N.p,N.n⟩:Rg)=N.rg from rfl]at hcp
   rw[show uv N wd c o=c.set o.A (conR N.rg wd (c.getD o.B t0) (c.getD o.C t0) o.L)from (if_neg (by omega)).trans (if_pos kd)]at hnx
   have g3:=vq (show c[o.B]? =some (c.getD o.B t0)by simp [zq,show o.B<c.length by omega])
   have g4:=vq (show c[o.C]? =some (c.getD o.C t0)by simp [zq,show o.C<c.length by omega])
   generalize conR N.rg wd (c.getD o.B t0) (c.getD o.C t0) o.L=T at*
   generalize c.getD o.B t0=TB at*
   generalize c.getD o.C t0=TC at*
   have p1:=Ao (c:=c) (i:=o.A) T (by omega)
   have tr:=sR (Co c)
   simp(disch:=omega) only[go_sem,seval,reduceCtorEq,d1,g,e1,e2,g3,g4,eY]
   (repeat (refine And.intro (by omega) ?_))
   (refine zD (hcp) ?_)
   simp(disch:=omega) only[go_sem,seval,reduceCtorEq,eY]
   (repeat (refine And.intro (by omega) ?_))
   refine⟨tr _ _, ?_⟩
   rw[p1]
   (refine NextI.drop (mkB 81 1208925819614629166319392) (by omega) (hI) (h1:= ?_) (h2:= ?_)<;>first | (simp only[go_sem,seval,reduceCtorEq,nz,na,n1,hnx];first | done | rfl) | rfl | skip)
end Go.Proofs.YtjfmckhbmdjnpaaGreat
