/-
 Contracts: the machine that checks compiled code, by the program: what it does; code that is right. No condition.
-/
import Derived.Test.YtjfmckhbmdjnpaaGreatMacA
import Derived.Test.YtjfmckhbmdjnpaaGreatSemK
import Derived.Test.YtjfmckhbmdjnpaaGreatLiftG
import Derived.Test.YtjfmckhbmdjnpaaGreatEliA
set_option linter.unusedSimpArgs false
set_option linter.unusedVariables false
namespace Go.Proofs.YtjfmckhbmdjnpaaGreat
open Go.RowKit Go.Lift Plain
set_option maxRecDepth 100000
def rgC (l:List (Bool × AV)):List AV:=l.flatMap fun r=>[.d (.bool r.1),r.2]
def rgV (l:List (Bool × List Int)):List (Bool × AV):=l.map fun r=>(r.1,.d (ints r.2))
def rgA (l:List (Bool × List Int)):List AV:=rgC (rgV l)
def bA (l:List Bool):List AV:=l.map fun b=>.d (.bool b)
section
variable {l : List (Bool × AV)} {k : Nat}
theorem km:(rgC l).length=l.length*2:=by
 induction l with
 | nil=>rfl
 | cons x l ih=>rw[rgC,List.flatMap_cons,List.length_append, ← rgC,ih];simp;omega
theorem yN (a b:List (Bool × AV)):rgC (a++b)=rgC a++rgC b:=by simp [rgC]
theorem FD (k:Nat):(rgC l).take (k*2)=rgC (l.take k):=by
 rcases Nat.lt_or_ge k l.length with h | h
 ·conv=>lhs;rw[← List.take_append_drop k l,yN]
  rw[List.take_left' (by rw[km,List.length_take];omega)]
 ·rw[zt h,zt (by rw[km];omega)]
theorem FE (k:Nat):(rgC l).drop (k*2)=rgC (l.drop k):=by
 rcases Nat.lt_or_ge k l.length with h | h
 ·conv=>lhs;rw[← List.take_append_drop k l,yN]
  rw[List.drop_left' (by rw[km,List.length_take];omega)]
 ·rw[List.drop_eq_nil_of_le h,List.drop_eq_nil_of_le (by rw[km];omega)]
  rfl
theorem rA {b:Bool} {x:AV} (h:k<l.length):(rgC l).take (k*2)++[.d (.bool b),x]++(rgC l).drop (k*2+2)=rgC (l.set k (b,x)):=by
 rw[FD,show k*2+2=(k+1)*2 by omega,FE,List.set_eq_take_append_cons_drop,if_pos h,yN,List.append_assoc]
 rfl
theorem CG:(rgC l).map nilC=rgC (l.map fun r=>(r.1,nilC r.2)):=by
 induction l with
 | nil=>rfl
 | cons x l ih=>rw[rgC,List.flatMap_cons,List.map_append, ← rgC,ih];rfl
end
section
variable {l : List (Bool × List Int)} {m : List Bool} {k : Nat}
theorem yK:(rgV l).length=l.length:=List.length_map ..
theorem yO:(rgA l).length=l.length*2:=by rw[rgA,km,yK]
theorem uU:rgA l=(rgD l).map .d:=by
 induction l with
 | nil=>rfl
 | cons x l ih=>
  have e:rgA (x :: l)=[.d (.bool x.1),.d (ints x.2)]++rgA l:=by simp [rgA,rgV,rgC]
  have e2:rgD (x :: l)=[.bool x.1,ints x.2]++rgD l:=by simp [rgD]
  rw[e,e2,List.map_append,ih]
  rfl
theorem CF (l:List (Bool × List Int)):(rgV l).map (fun r=>(r.1,nilC r.2))=rgV l:=by simp [rgV,nilC,List.map_map,Function.comp_def]
theorem Ar (h:k<l.length):(rgA l)[k*2+1]? =some (.d (ints (l.getD k (false,[])).2)):=by rw[uU,List.getElem?_map,vt h];rfl
theorem Ch:cY (rgA l)=some (rgD l):=by rw[uU,oV]
theorem CE (ρ:Nat→Option Nat):rnL ρ (rgA l)=rgA l:=by
 rw[aJ,uU,List.map_map];exact List.map_congr_left fun x _=>rfl
theorem Hi:(bA m).length=m.length:=List.length_map ..
theorem Hh:bA m=(bD m).map .d:=by simp [bA,bD,List.map_map,Function.comp_def]
theorem Lc {b:Bool} (h:k<m.length):(bA m).take k++[.d (.bool b)]++(bA m).drop (k+1)=bA (m.set k b):=by
 rw[List.set_eq_take_append_cons_drop,if_pos h]
 simp [bA]
theorem EP:cY (bA m)=some (bD m):=by rw[Hh,oV]
theorem Kl (ρ:Nat→Option Nat):rnL ρ (bA m)=bA m:=by
 rw[aJ,Hh,List.map_map];exact List.map_congr_left fun x _=>rfl
end
theorem I7 (ρ:Nat→Option Nat) (l:List (Bool × List Int)):rnL ρ (rgC (rgV l))=rgC (rgV l):=CE ρ
attribute [go_sem] I7 km yK yO Ch CE Hi EP Kl
def mcC (N:Net) (i R m:Nat):List AV:=[.d (.int N.k),.d (.int N.p),.d (.int N.n),.d (tens N.ts),.d (ints N.os),.own i 0 R,.own (i+1) 0 m]
def mcS (N:Net) (M:Mch):Sto:=[some ⟨0,false,mcC N 1 M.rg.length M.ld.length⟩,some ⟨2,false,rgA M.rg⟩,some ⟨1,false,bA M.ld⟩]
theorem BV {ls keep:List Int} (h:ls.length≤1048576) (hk:keep.length≤1048576):Does Tryz.prog 75 [.d (ints ls),.d (ints keep)] [] (.d (ints (ls.filter (has keep)))) []:=(qR h hk).fzI
theorem rG {N:Net} {R:Nat} (hR:R≤1000) (hm:N.ts.length≤1000):Does Tryz.prog 35 [netA N,.d (.int R)] [] (.ptr 0 0) (mcS N (m0 N R)):=by
 (refine spec_of (by kernel_rfl) Tryz.func35 rV (fnOk (nb rfl) ?_);unfold l8)
 simp only[netA,mcS,mcC]
 (simp only[Nat.reduceSub,Zl,zn,Nat.reduceAdd,zF];try simp only[af]);(simp only[go_sem,seval,reduceCtorEq,List.replicate])
 have e1:(m0 N R).rg.length=R:=by simp [m0]
 have e2:(m0 N R).ld.length=N.ts.length:=by simp [m0]
 have hz:(Lift.bO R [.d (.bool false),.nil]).map nilC=rgA (m0 N R).rg:=by
  unfold Lift.bO m0 rgA rgV rgC
  rw[List.map_replicate,List.flatMap_replicate,List.map_flatten,List.map_replicate]
  rfl
 have hb:bv (List.replicate N.ts.length false)=bA (m0 N R).ld:=nr rfl
 refine⟨⟨by omega,by omega⟩,⟨by omega,by omega⟩, ?_⟩
 refine FnEnd.wk (Wk.trans (Wk.nilR 1 rfl) Wk.nogA) ?_
 simp only[nilK,List.modify_succ_cons,List.modify_zero_cons,Option.map_some,hz,hb,e1,e2,nogA]
 (refine FnEnd.mkI [3,1,2] (nb rfl) rfl (zd rfl) rfl ?_ ?_<;>try simp only[go_sem,seval,reduceCtorEq])
theorem yL (l:List (Bool × List Int)) (i:Nat) (b:Bool) (L:List Int):((rgV l).set i (b,.d (.sl L.length (dv L))))=rgV (l.set i (b,L)):=by
 unfold rgV
 rw[List.map_set]
 rfl
theorem sR {l:List AV} (h:l.all trB=true) (a b:Nat):((l.drop a).take b).all trB=true:=List.all_eq_true.2 fun x hx=>List.all_eq_true.1 h x (List.mem_of_mem_drop (List.mem_of_mem_take hx))
theorem Li (l:List Bool):(bA l).all trB=true:=by
 refine List.all_eq_true.2 fun x hx=> ?_
 obtain⟨b,_,rfl⟩:=List.mem_map.1 hx
 rfl
theorem Bu {l:List (Bool × AV)} (h:∀ r∈l,trB r.2=true):(rgC l).all trB=true:=by
 refine List.all_eq_true.2 fun x hx=> ?_
 obtain⟨r,hr,hx⟩:=List.mem_flatMap.1 hx
 simp only[List.mem_cons,List.not_mem_nil,or_false]at hx
 rcases hx with rfl | rfl
 ·rfl
 ·exact h r hr
theorem JI (l:List (Bool × List Int)):∀ r∈rgV l,trB r.2=true:=fun r hr=>by
 obtain⟨q,_,rfl⟩:=List.mem_map.1 hr
 rfl
theorem F2 {l:List (Bool × AV)} (h:∀ r∈l,trB r.2=true) (i:Nat) {v:Bool × AV} (hv:trB v.2=true):∀ r∈l.set i v,trB r.2=true:=fun r hr=>by
 rcases List.mem_or_eq_of_mem_set hr with h1 | h1
 ·exact h r h1
 ·rw[h1];exact hv
theorem o9:nilC .nil=.d (.sl 0 []):=nr rfl
theorem yT (x:D):nilC (.d x)=.d x:=nr rfl
theorem CS (l:List (Bool × AV)) (i:Nat) (v:Bool × AV):(l.set i v).map (fun r=>(r.1,nilC r.2))=(l.map fun r=>(r.1,nilC r.2)).set i (v.1,nilC v.2):=by rw[List.map_set]
theorem Aq (l:List (Bool × List Int)) (i:Nat) (b:Bool):(rgV l).set i (b,.d (.sl 0 []))=rgV (l.set i (b,[])):=yL l i b []
set_option maxHeartbeats 3200000 in
theorem yf {N:Net} (hN:Gen6 N) {M:Mch} {o:Opn} (hM:MSz N M) (hL:o.L.length≤1000) (hk:o.kind=1∨o.kind=2∨o.kind=3) (hA:o.A<M.rg.length) (hB:o.kind=1→o.B<N.ts.length) (hBC:o.kind=2→o.B<M.rg.length∧o.C<M.rg.length):
  Does Tryz.prog 40 [.ptr 0 0,opA o] (mcS N M) (.d (ints (exL N M o))) (mcS N (exec N M o)):=by
 have hR:=hM.rg
 have hm:=hM.ld
 have h12:=(an.1 hN.ok).2.1
 have tV:=JI M.rg
 have tA:=sR (Bu tV)
 have tB:=sR (Li M.ld)
 have lV:=yK (l:=M.rg)
 (refine spec_of (by kernel_rfl) Tryz.func40 mL (fnOk (nb rfl) ?_);unfold fA)
 simp only[mcS,mcC,opA,rgA]
 (simp only[Nat.reduceSub,Zl,zn,Nat.reduceAdd,zF];try simp only[af]);(simp only[go_sem,seval,reduceCtorEq,List.replicate])
 rcases hk with hk | hk | hk
 ·have e1:((o.kind:Int)==1)=true:=by rw[beq_iff_eq];omega
  have e2:((o.kind:Int) !=3)=true:=by rw[bne_iff_ne];omega
  have gB:=hB hk
  have gt:N.ts[o.B]? =some (N.ts.getD o.B ⟨[],[],[]⟩):=by simp [gB]
  have g:=(HG gt).1
  have ex:exL N M o=(N.ts.getD o.B ⟨[],[],[]⟩).labels:=by unfold exL;rw[if_pos hk]
  have ec:exec N M o=⟨M.rg.set o.A (true,exL N M o),M.ld.set o.B true⟩:=by unfold exec;rw[if_pos hk]
  rw[ec,ex]
  generalize (N.ts.getD o.B ⟨[],[],[]⟩).labels=L at*
  have p1:=rA (l:=rgV M.rg) (k:=o.A) (b:=true) (x:=.d (.sl L.length (dv L))) (by omega)
  have p2:=Lc (m:=M.ld) (k:=o.B) (b:=true) (by omega)
  simp(disch:=omega) only[go_sem,seval,reduceCtorEq,e1,e2,g,tens]
  (repeat (refine And.intro (by omega) ?_))
  refine⟨tB _ _,by omega,by omega,tA _ _, ?_⟩
  rw[p1,p2,yL]
  simp only[go_sem,seval,reduceCtorEq,List.length_set]
  (refine zE ?_ ?_<;>try simp only[go_sem,seval,reduceCtorEq])
 ·have e0:((o.kind:Int)==1)=false:=by rw[beq_eq_false_iff_ne];omega
  have e1:((o.kind:Int)==2)=true:=by rw[beq_iff_eq];omega
  have e2:((o.kind:Int) !=3)=true:=by rw[bne_iff_ne];omega
  obtain⟨gB,gC⟩:=hBC hk
  have b1:=Ar gB
  have c1:=Ar gC
  rw[show (M.rg.getD o.B (false,[])).2=M.lb o.B from rfl,rgA]at b1
  rw[show (M.rg.getD o.C (false,[])).2=M.lb o.C from rfl,rgA]at c1
  have hlb:=hM.lb o.B
  have hlc:=hM.lb o.C
  have hJl:=s8 (M.lb o.B) (M.lb o.C)
  have ex:exL N M o=(ao (M.lb o.B) (M.lb o.C)).filter (has o.L):=by unfold exL;rw[if_neg (by omega),if_pos hk];rfl
  have ec:exec N M o=⟨((M.rg.set o.B (false,[])).set o.C (false,[])).set o.A (true,exL N M o),M.ld⟩:=by unfold exec;rw[if_neg (by omega),if_pos hk]
  rw[ec,ex]
  have hjo:=iy (a:=M.lb o.B) (b:=M.lb o.C) (by omega) (by omega)
  have hke:=BV (ls:=ao (M.lb o.B) (M.lb o.C)) (keep:=o.L) (by omega) (by omega)
  generalize (ao (M.lb o.B) (M.lb o.C)).filter (has o.L)=L at*
  generalize ao (M.lb o.B) (M.lb o.C)=J at*
  have p1:=rA (l:=rgV M.rg) (k:=o.B) (b:=false) (x:=.nil) (by omega)
  have p2:=rA (l:=(rgV M.rg).set o.B (false,.nil)) (k:=o.C) (b:=false) (x:=.nil) (by rw[List.length_set];omega)
  have p3:=rA (l:=((rgV M.rg).set o.B (false,.nil)).set o.C (false,.nil)) (k:=o.A) (b:=true) (x:=.d (.sl L.length (dv L))) (by rw[List.length_set,List.length_set];omega)
  have t1:=F2 tV o.B (v:=(false,.nil)) rfl
  have t2:=F2 t1 o.C (v:=(false,.nil)) rfl
  simp(disch:=omega) only[go_sem,seval,reduceCtorEq,e0,e1,b1,c1]
  (repeat (refine And.intro (by omega) ?_))
  (refine zD (hjo) ?_)
  simp(disch:=omega) only[go_sem,seval,reduceCtorEq]
  (refine zC (hke) ?_)
  simp(disch:=omega) only[go_sem,seval,reduceCtorEq,e2]
  (repeat (refine And.intro (by omega) ?_))
  rw[p1,p2,p3]
  refine⟨tA _ _,by omega,by rw[km,List.length_set];omega,sR (Bu t1) _ _,by omega,by rw[km,List.length_set,List.length_set];omega,sR (Bu t2) _ _, ?_⟩
  refine FnEnd.wk (Wk.nilR 1 rfl) ?_
  simp only[go_sem,seval,reduceCtorEq,nilK,List.modify_succ_cons,List.modify_zero_cons,Option.map_some,CG,CS,CF,o9,yT,Aq,yL,List.length_set]
  (refine zE ?_ ?_<;>try simp only[go_sem,seval,reduceCtorEq])
 ·have e0:((o.kind:Int)==1)=false:=by rw[beq_eq_false_iff_ne];omega
  have e1:((o.kind:Int)==2)=false:=by rw[beq_eq_false_iff_ne];omega
  have e2:((o.kind:Int) !=3)=false:=by rw[hk];rfl
  have ex:exL N M o=[]:=by unfold exL;rw[if_neg (by omega),if_neg (by omega)]
  have ec:exec N M o=⟨M.rg.set o.A (false,[]),M.ld⟩:=by unfold exec;rw[if_neg (by omega),if_neg (by omega)]
  rw[ec,ex]
  have p1:=rA (l:=rgV M.rg) (k:=o.A) (b:=false) (x:=.nil) (by omega)
  simp(disch:=omega) only[go_sem,seval,reduceCtorEq,e0,e1,e2]
  (repeat (refine And.intro (by omega) ?_))
  refine⟨tA _ _, ?_⟩
  rw[p1]
  refine FnEnd.wk (Wk.trans (Wk.nilD 4 _ _ rfl) (Wk.nilR 1 rfl)) ?_
  simp only[go_sem,seval,reduceCtorEq,nilK,List.modify_succ_cons,List.modify_zero_cons,Option.map_some,CG,CS,CF,o9,Aq,List.length_set]
  (refine zE ?_ ?_<;>try simp only[go_sem,seval,reduceCtorEq])
set_option maxRecDepth 100000
def opD (l:List Opn):List D:=l.flatMap fun o=>[.int o.kind,.int o.A,.int o.B,.int o.C,ints o.L]
def ii (R:Int) (ops:List Opn):AV:=.agg [.d (.int R),.d (.sl ops.length (opD ops))]
section
variable {l : List Opn} {k : Nat}
theorem uX:(opD l).length=l.length*5:=by
 induction l with
 | nil=>rfl
 | cons x l ih=>rw[opD,List.flatMap_cons,List.length_append, ← opD,ih];simp;omega
theorem uY:∀ {l:List Opn} {k:Nat} (h:k<l.length),((opD l).drop (k*5)).take 5=[.int l[k].kind,.int l[k].A,.int l[k].B,.int l[k].C,ints l[k].L]
 | x :: l,0,_=>by simp [opD]
 | x :: l,k+1,h=>by
  have:=uY (l:=l) (k:=k) (by simpa using h)
  rw[opD,List.flatMap_cons, ← opD,show (k+1)*5=5+k*5 by omega, ← List.drop_drop]
  simpa using this
end
attribute [go_sem] uX
structure OpsOk (ops:List Opn):Prop where
 n:ops.length≤1000
 kd:∀ o∈ops,o.kind=1∨o.kind=2∨o.kind=3
 A:∀ o∈ops,o.A≤1000
 B:∀ o∈ops,o.B≤1000
 C:∀ o∈ops,o.C≤1000
 L:∀ o∈ops,o.L.length≤1000
theorem BM {N:Net} (hN:Gen6 N) {R:Nat} (hR:R≤1000) (ops:List Opn) (k:Nat):MSz N (mTo N ops (m0 N R) k).1∧(mTo N ops (m0 N R) k).1.rg.length=R:=by
 have h:=iw (N:=N) (ops:=ops) (m:=m0 N R) k
 have h1:(m0 N R).rg.length=R:=by simp [m0]
 have h2:(m0 N R).ld.length=N.ts.length:=by simp [m0]
 exact⟨⟨by omega,by omega,fun i=>(oF hN k i).len hN⟩,by omega⟩
set_option maxHeartbeats 6400000 in
theorem CodeOk_d {N:Net} (hN:Gen6 N) {R:Nat} {ops:List Opn} (hO:OpsOk ops) (hR:R≤1000):
  Does Tryz.prog 11 [netA N,ii R ops] [] (.d (.bool (cl N R ops))) []:=by
 have hn:=hO.n
 have h12:=(an.1 hN.ok).2.1
 have hok:=hN.ok
 (refine spec_of (by kernel_rfl) Tryz.func11 xt (fnOk (nb rfl) ?_);unfold qH)
 simp only[netA,ii]
 (simp only[Nat.reduceSub,Zl,zn,Nat.reduceAdd,zF];try simp only[af]);(simp only[go_sem,seval,reduceCtorEq,List.replicate])
 (refine aA (mP hN.sz) ?_ ?_ ?_;(focus (simp only[go_sem,seval,reduceCtorEq,netA];done));(first | rfl | (focus (simp only[go_sem];done))))
 rw[hok]
 by_cases h1:N.ts.length=0
 ·have e1:((N.ts.length:Int)==0)=true:=by simp [h1]
  have e:cl N R ops=false:=by
   cases hc:cl N R ops
   ·rfl
   ·simp only[cl,Bool.and_eq_true,decide_eq_true_eq]at hc;omega
  simp(disch:=omega) only[go_sem,seval,reduceCtorEq,e1,e,tens]
  (refine zE ?_ ?_<;>try simp only[go_sem,seval,reduceCtorEq])
 have e1:((N.ts.length:Int)==0)=false:=by rw[beq_eq_false_iff_ne];omega
 by_cases h2:R<1
 ·have e2:(R:Int)<1:=by omega
  have e:cl N R ops=false:=by
   cases hc:cl N R ops
   ·rfl
   ·simp only[cl,Bool.and_eq_true,decide_eq_true_eq]at hc;omega
  simp(disch:=omega) only[go_sem,seval,reduceCtorEq,e1,e2,e,tens]
  (refine zE ?_ ?_<;>try simp only[go_sem,seval,reduceCtorEq])
 have e2:¬ (R:Int)<1:=by omega
 by_cases h3:R>24
 ·have e3:(R:Int)>24:=by omega
  have e:cl N R ops=false:=by
   cases hc:cl N R ops
   ·rfl
   ·simp only[cl,Bool.and_eq_true,decide_eq_true_eq]at hc;omega
  simp(disch:=omega) only[go_sem,seval,reduceCtorEq,e1,e2,e3,e,tens]
  (refine zE ?_ ?_<;>try simp only[go_sem,seval,reduceCtorEq])
 have e3:¬ (R:Int)>24:=by omega
 by_cases h4:ops.length=0
 ·have e4:((ops.length:Int)==0)=true:=by simp [h4]
  have e:cl N R ops=false:=by
   cases hc:cl N R ops
   ·rfl
   ·simp only[cl,Bool.and_eq_true,decide_eq_true_eq]at hc;omega
  simp(disch:=omega) only[go_sem,seval,reduceCtorEq,e1,e2,e3,e4,e,tens]
  (refine zE ?_ ?_<;>try simp only[go_sem,seval,reduceCtorEq])
 have e4:((ops.length:Int)==0)=false:=by rw[beq_eq_false_iff_ne];omega
 have hcode:cl N R ops=(mTo N ops (m0 N R) ops.length).2:=by
  unfold cl
  rw[hok,decide_eq_true ⟨by omega,by omega,by omega,by omega⟩]
  simp
 rw[hcode]
 simp(disch:=omega) only[go_sem,seval,reduceCtorEq,e1,e2,e3,e4,tens]
 (refine aA (rG (N:=N) (R:=R) (by omega) (by omega)) ?_ ?_ ?_;(focus (simp only[go_sem,seval,reduceCtorEq,netA,tens];done));(first | rfl | (focus (simp only[go_sem];done))))
 have r0:(m0 N R).rg.length=R:=by simp [m0]
 have r1:(m0 N R).ld.length=N.ts.length:=by simp [m0]
 simp(disch:=omega) only[go_sem,seval,reduceCtorEq,mcS,mcC,tens,r0,r1]
 have hI0:(mTo N ops (m0 N R) 0).2=true:=rfl
 have hz:(mTo N ops (m0 N R) 0).1=m0 N R:=rfl
 refine bG (ops.length) (mkB 81 2417851639224860302901712) (fun k=>(mTo N ops (m0 N R) k).2=true) (fun k=>[(41,.d (.int k))]) (fun k=>[(3,rgA (mTo N ops (m0 N R) k).1.rg),(4,bA (mTo N ops (m0 N R) k).1.ld)]) (hi:=hI0) (h1:=by first | (simp only[go_sem,seval,reduceCtorEq,nz,na,n1,hz];first | done | rfl) | rfl) (h2:=by first | (simp only[go_sem,seval,reduceCtorEq,nz,na,n1,hz];first | done | rfl) | rfl) (hr:=fun k hk hi=> ?_)
 unfold pr
 by_cases hlt:k<ops.length
 ·have d1:(k:Int)<ops.length:=by omega
  have g:=uY hlt
  obtain⟨hM,hr⟩:=BM hN hR ops k
  have hd:=hM.ld
  have om:=List.getElem_mem hlt
  have kd:=hO.kd _ om
  have kA:=hO.A _ om
  have kB:=hO.B _ om
  have kC:=hO.C _ om
  have kL:=hO.L _ om
  have hgk:ops.getD k ⟨3,0,0,0,[]⟩=ops[k]:=by simp [zq,hlt]
  have hnx:mTo N ops (m0 N R) (k+1)=(exec N (mTo N ops (m0 N R) k).1 ops[k],okB N (mTo N ops (m0 N R) k).1 ops[k]&&(decide (ops[k].kind=3)==decide (k+1=ops.length))):=by
   simp only[mTo,hgk,hi,Bool.true_and]
  have hbad:¬ (okB N (mTo N ops (m0 N R) k).1 ops[k]=true∧(ops[k].kind=3↔k+1=ops.length))→(mTo N ops (m0 N R) ops.length).2=false:=fun hc=>by
   cases hq:(mTo N ops (m0 N R) ops.length).2
   ·rfl
   ·have:=mH hq hlt
    rw[hgk]at this
    exact absurd this hc
  have hl:=Gi (N:=N) (M:=(mTo N ops (m0 N R) k).1) (o:=ops[k]) hM.rg (by omega) kL kA kB kC
  have hp:=FM hN (M:=(mTo N ops (m0 N R) k).1) (o:=ops[k]) hM kL kA kB kC
  have ho:=In (N:=N) (M:=(mTo N ops (m0 N R) k).1) (o:=ops[k]) hM.rg (by omega) kL kA kB kC
  have hx:=yf hN (M:=(mTo N ops (m0 N R) k).1) (o:=ops[k]) hM kL kd
  generalize hMd:(mTo N ops (m0 N R) k).1=M at*
  generalize hod:ops[k]=o at*
  have mt:(rgA M.rg).take (R*2)=rgA M.rg:=zt (by rw[yO];omega)
  have bt:(bA M.ld).take N.ts.length=bA M.ld:=zt (by rw[Hi];omega)
  simp(disch:=omega) only[go_sem,seval,reduceCtorEq,d1,g]
  (repeat (refine And.intro (by omega) ?_))
  have kq:((k:Int)==(ops.length:Int)-1)=decide (k+1=ops.length):=by rw[Bool.eq_iff_iff,beq_iff_eq,decide_eq_true_eq];omega
  obtain⟨x1,x2⟩:=wF N M o
  rw[hr]at x1
  rw[hd]at x2
  have hn1:(mTo N ops (m0 N R) (k+1)).1=exec N M o:=by rw[hnx]
  rcases kd with kd | kd | kd
  ·have k1:((o.kind:Int)==1)=true:=by rw[beq_iff_eq];omega
   simp(disch:=omega) only[go_sem,seval,reduceCtorEq,k1]
   (refine aA (hl) ?_ ?_ ?_;(focus (simp only[go_sem,seval,reduceCtorEq,mcP,opA,hr,hd,mt,bt,tens];done));(first | rfl | (focus (simp only[go_sem];done))))
   have eb:okB N M o=oq M o:=by unfold okB;rw[if_pos kd]
   rw[eb]at hbad hnx
   cases hb:oq M o
   ·rw[hbad (fun hc=>by rw[hb]at hc;cases hc.1)]
    simp(disch:=omega) only[go_sem,seval,reduceCtorEq]
    (refine zE ?_ ?_<;>try simp only[go_sem,seval,reduceCtorEq])
   have k3:((o.kind:Int)==3)=false:=by rw[beq_eq_false_iff_ne];omega
   simp(disch:=omega) only[go_sem,seval,reduceCtorEq,k3]
   by_cases hq:k+1=ops.length
   ·rw[hbad (fun hc=>by have:=hc.2;omega)]
    have kr:decide (k+1=ops.length)=true:=decide_eq_true hq
    simp(disch:=omega) only[go_sem,seval,reduceCtorEq,kq,kr]
    (refine zE ?_ ?_<;>try simp only[go_sem,seval,reduceCtorEq])
   have kr:decide (k+1=ops.length)=false:=decide_eq_false hq
   have hI:(mTo N ops (m0 N R) (k+1)).2=true:=by rw[hnx,hb,kr,decide_eq_false (by omega)];rfl
   have hb':=hb
   unfold oq at hb'
   simp only[Bool.and_eq_true]at hb'
   have qA:o.A<M.rg.length:=zd hb'.1.1.1.1.1
   have qB:o.B<N.ts.length:=by have:=zd hb'.1.1.1.1.2;omega
   simp(disch:=omega) only[go_sem,seval,reduceCtorEq,kq,kr]
   (refine am [2,3,4] [] true (zd rfl) ?_ _ ?_ (hx qA (fun _=>qB) (fun h=>by omega)) ?_ ?_;(focus (simp only[go_sem,seval,reduceCtorEq,mcS,mcC,opA,hr,hd,x1,x2,tens];done));(focus (simp only[go_sem,seval,reduceCtorEq,mcS,mcC,opA,hr,hd,x1,x2,tens];done));(focus (first | rfl | (simp only[go_sem,seval,reduceCtorEq,mcS,mcC,opA,hr,hd,x1,x2,tens];done))))
   simp(disch:=omega) only[go_sem,seval,reduceCtorEq,mcS,mcC,x1,x2]
   (refine NextI.drop (mkB 81 2417851639224860302901712) (by omega) (hI) (h1:= ?_) (h2:= ?_)<;>first | (simp only[go_sem,seval,reduceCtorEq,nz,na,n1,hn1];first | done | rfl) | rfl | skip)
  ·have k1:((o.kind:Int)==1)=false:=by rw[beq_eq_false_iff_ne];omega
   have k2:((o.kind:Int)==2)=true:=by rw[beq_iff_eq];omega
   simp(disch:=omega) only[go_sem,seval,reduceCtorEq,k1,k2]
   (refine aA (hp) ?_ ?_ ?_;(focus (simp only[go_sem,seval,reduceCtorEq,mcP,opA,hr,hd,mt,bt,tens];done));(first | rfl | (focus (simp only[go_sem];done))))
   have eb:okB N M o=nY N M o:=by unfold okB;rw[if_neg (by omega),if_pos kd]
   rw[eb]at hbad hnx
   cases hb:nY N M o
   ·rw[hbad (fun hc=>by rw[hb]at hc;cases hc.1)]
    simp(disch:=omega) only[go_sem,seval,reduceCtorEq]
    (refine zE ?_ ?_<;>try simp only[go_sem,seval,reduceCtorEq])
   have k3:((o.kind:Int)==3)=false:=by rw[beq_eq_false_iff_ne];omega
   simp(disch:=omega) only[go_sem,seval,reduceCtorEq,k3]
   by_cases hq:k+1=ops.length
   ·rw[hbad (fun hc=>by have:=hc.2;omega)]
    have kr:decide (k+1=ops.length)=true:=decide_eq_true hq
    simp(disch:=omega) only[go_sem,seval,reduceCtorEq,kq,kr]
    (refine zE ?_ ?_<;>try simp only[go_sem,seval,reduceCtorEq])
   have kr:decide (k+1=ops.length)=false:=decide_eq_false hq
   have hI:(mTo N ops (m0 N R) (k+1)).2=true:=by rw[hnx,hb,kr,decide_eq_false (by omega)];rfl
   have hb':=hb
   unfold nY at hb'
   simp only[Bool.and_eq_true]at hb'
   have qA:o.A<M.rg.length:=zd hb'.1.1.1.1.1.1.1.1
   have qB:o.B<M.rg.length:=zd hb'.1.1.1.1.1.1.1.2
   have qC:o.C<M.rg.length:=zd hb'.1.1.1.1.1.1.2
   simp(disch:=omega) only[go_sem,seval,reduceCtorEq,kq,kr]
   (refine am [2,3,4] [] true (zd rfl) ?_ _ ?_ (hx qA (fun h=>by omega) (fun _=>⟨qB,qC⟩)) ?_ ?_;(focus (simp only[go_sem,seval,reduceCtorEq,mcS,mcC,opA,hr,hd,x1,x2,tens];done));(focus (simp only[go_sem,seval,reduceCtorEq,mcS,mcC,opA,hr,hd,x1,x2,tens];done));(focus (first | rfl | (simp only[go_sem,seval,reduceCtorEq,mcS,mcC,opA,hr,hd,x1,x2,tens];done))))
   simp(disch:=omega) only[go_sem,seval,reduceCtorEq,mcS,mcC,x1,x2]
   (refine NextI.drop (mkB 81 2417851639224860302901712) (by omega) (hI) (h1:= ?_) (h2:= ?_)<;>first | (simp only[go_sem,seval,reduceCtorEq,nz,na,n1,hn1];first | done | rfl) | rfl | skip)
  ·have k1:((o.kind:Int)==1)=false:=by rw[beq_eq_false_iff_ne];omega
   have k2:((o.kind:Int)==2)=false:=by rw[beq_eq_false_iff_ne];omega
   have k3':((o.kind:Int)==3)=true:=by rw[beq_iff_eq];omega
   simp(disch:=omega) only[go_sem,seval,reduceCtorEq,k1,k2,k3']
   (refine aA (ho) ?_ ?_ ?_;(focus (simp only[go_sem,seval,reduceCtorEq,mcP,opA,hr,hd,mt,bt,tens];done));(first | rfl | (focus (simp only[go_sem];done))))
   have eb:okB N M o=outB M o:=by unfold okB;rw[if_neg (by omega),if_neg (by omega)]
   rw[eb]at hbad hnx
   cases hb:outB M o
   ·rw[hbad (fun hc=>by rw[hb]at hc;cases hc.1)]
    simp(disch:=omega) only[go_sem,seval,reduceCtorEq]
    (refine zE ?_ ?_<;>try simp only[go_sem,seval,reduceCtorEq])
   have k3:((o.kind:Int)==3)=true:=by rw[beq_iff_eq];omega
   simp(disch:=omega) only[go_sem,seval,reduceCtorEq,k3]
   by_cases hq:¬ k+1=ops.length
   ·rw[hbad (fun hc=>by have:=hc.2;omega)]
    have kr:decide (k+1=ops.length)=false:=decide_eq_false hq
    simp(disch:=omega) only[go_sem,seval,reduceCtorEq,kq,kr]
    (refine zE ?_ ?_<;>try simp only[go_sem,seval,reduceCtorEq])
   have kr:decide (k+1=ops.length)=true:=decide_eq_true (by omega)
   have hI:(mTo N ops (m0 N R) (k+1)).2=true:=by rw[hnx,hb,kr,decide_eq_true (by omega)];rfl
   have hb':=hb
   unfold outB at hb'
   simp only[Bool.and_eq_true]at hb'
   have qA:o.A<M.rg.length:=zd hb'.1.1.1.1.1
   simp(disch:=omega) only[go_sem,seval,reduceCtorEq,kq,kr]
   (refine am [2,3,4] [] true (zd rfl) ?_ _ ?_ (hx qA (fun h=>by omega) (fun h=>by omega)) ?_ ?_;(focus (simp only[go_sem,seval,reduceCtorEq,mcS,mcC,opA,hr,hd,x1,x2,tens];done));(focus (simp only[go_sem,seval,reduceCtorEq,mcS,mcC,opA,hr,hd,x1,x2,tens];done));(focus (first | rfl | (simp only[go_sem,seval,reduceCtorEq,mcS,mcC,opA,hr,hd,x1,x2,tens];done))))
   simp(disch:=omega) only[go_sem,seval,reduceCtorEq,mcS,mcC,x1,x2]
   (refine NextI.drop (mkB 81 2417851639224860302901712) (by omega) (hI) (h1:= ?_) (h2:= ?_)<;>first | (simp only[go_sem,seval,reduceCtorEq,nz,na,n1,hn1];first | done | rfl) | rfl | skip)
 ·have d1:¬ (k:Int)<ops.length:=by omega
  obtain rfl:k=ops.length:=by omega
  rw[hi]
  simp(disch:=omega) only[go_sem,seval,reduceCtorEq,d1]
  (refine zE ?_ ?_<;>try simp only[go_sem,seval,reduceCtorEq])
set_option maxRecDepth 100000
def totS (N:Net) (M:Mch):Sto:=[some ⟨0,false,[.ptr 1 0]⟩,some ⟨0,false,mcC N 2 M.rg.length M.ld.length⟩,some ⟨2,false,rgA M.rg⟩,some ⟨1,false,bA M.ld⟩,some ⟨0,false,iv (aK N.ts).1⟩]
theorem Ie {l:List (Bool × List Int)} {k:Nat} (h:k<l.length):((rgA l).drop (k*2)).take 2=[.d (.bool (l.getD k (false,[])).1),.d (ints (l.getD k (false,[])).2)]:=by
 rw[uU, ← List.map_drop, ← List.map_take,yM h]
 rfl
set_option maxHeartbeats 3200000 in
theorem Cp {N:Net} (hN:Gen6 N) {M:Mch} (hR:M.rg.length≤24) (hI:∀ i,InL N (M.lb i)):
  Does Tryz.prog 36 [.ptr 0 0,.ptr 4 0] (totS N M) (.d (.int (totM N M))) (totS N M):=by
 have hD:=eM N.ts
 have htk:(iv (aK N.ts).1).take 100=iv (aK N.ts).1:=zt (by simp [cA,hD])
 (refine spec_ofW _ (by kernel_rfl) Tryz.func36 qV (fnOk (nb rfl) ?_);unfold kb)
 simp only[totS,mcC]
 (simp only[Nat.reduceSub,Zl,zn,Nat.reduceAdd,zF];try simp only[af]);(simp only[go_sem,seval,reduceCtorEq,List.replicate])
 have hz:fD N M 0=0:=rfl
 refine aP (M.rg.length) (mkB 27 67104800) (fun k=>[(11,.d (.int k)),(3,.d (.int (fD N M k)))]) (fun k=>[]) (h1:=by first | (simp only[go_sem,seval,reduceCtorEq,nz,na,n1,hz];first | done | rfl) | rfl) (h2:=by first | (simp only[go_sem,seval,reduceCtorEq,nz,na,n1,hz];first | done | rfl) | rfl) (hr:=fun k hk=> ?_)
 unfold ik
 have hb:=lD hN hI k
 by_cases hlt:k<M.rg.length
 ·have d1:(k:Int)<M.rg.length:=by omega
  have g:=Ie hlt
  rw[show (M.rg.getD k (false,[])).1=M.full k from rfl,show (M.rg.getD k (false,[])).2=M.lb k from rfl]at g
  have hs:=(hI k).sz hN
  have hl:=(hI k).len hN
  have h6:=(hI k).six hN
  have hat:=(hI k).at hN
  have hdm:∀ x∈(M.lb k).map (atT (aK N.ts).1),1≤x:=fun x hx=>by
   obtain⟨y,hy,rfl⟩:=List.mem_map.1 hx
   rw[hat y hy]
   have:=gf (x:=y)
   omega
  have hml:((M.lb k).map (atT (aK N.ts).1)).length=(M.lb k).length:=List.length_map ..
  have hpe:psz N (M.lb k)=aa ((M.lb k).map (atT (aK N.ts).1)):=rfl
  rw[hpe]at hs
  have htL:List.take (M.lb k).length ((M.lb k).map (atT (aK N.ts).1))=(M.lb k).map (atT (aK N.ts).1):=zt (by omega)
  simp(disch:=omega) only[go_sem,seval,reduceCtorEq,d1,g,yO]
  (repeat (refine And.intro (by omega) ?_))
  cases hf:M.full k
  ·have hn:fD N M (k+1)=fD N M k:=by rw[fD,if_neg (by rw[hf];decide)];omega
   simp(disch:=omega) only[go_sem,seval,reduceCtorEq]
   (refine Next.drop (mkB 27 67104800) (by omega) (h1:= ?_) (h2:= ?_)<;>first | (simp only[go_sem,seval,reduceCtorEq,nz,na,n1,hn];first | done | rfl) | rfl | skip)
  ·have hn:fD N M (k+1)=fD N M k+aa ((M.lb k).map (atT (aK N.ts).1)):=by rw[fD,if_pos hf,hpe]
   simp(disch:=omega) only[go_sem,seval,reduceCtorEq,hD,htk]
   (repeat (refine And.intro (by omega) ?_))
   (refine zC (sG (D:=(aK N.ts).1) (L:=M.lb k) hD (by omega) (fun x hx=>by have:=h6 x hx;omega)) ?_)
   simp(disch:=omega) only[go_sem,seval,reduceCtorEq]
   (refine aA (nX (ds:=(M.lb k).map (atT (aK N.ts).1)) (by omega) hdm (by omega)) ?_ ?_ ?_;(focus (simp only[go_sem,seval,reduceCtorEq,hml,htL];done));(first | rfl | (focus (simp only[go_sem];done))))
   simp(disch:=omega) only[go_sem,seval,reduceCtorEq]
   (repeat (refine And.intro (by omega) ?_))
   (refine Next.drop (mkB 27 67104800) (by omega) (h1:= ?_) (h2:= ?_)<;>first | (simp only[go_sem,seval,reduceCtorEq,nz,na,n1,hn];first | done | rfl) | rfl | skip)
 ·have d1:¬ (k:Int)<M.rg.length:=by omega
  obtain rfl:k=M.rg.length:=by omega
  rw[show totM N M=fD N M M.rg.length from rfl]
  simp(disch:=omega) only[go_sem,seval,reduceCtorEq,d1]
  (refine zE ?_ ?_<;>try simp only[go_sem,seval,reduceCtorEq])
set_option maxRecDepth 100000
set_option maxHeartbeats 3200000 in
theorem CodePeak_d {N:Net} (hN:Gen6 N) {R:Nat} {ops:List Opn} (hO:OpsOk ops) (hc:cl N R ops=true):
  Does Tryz.prog 10 [netA N,ii R ops] [] (.d (.int (pkC N R ops ops.length))) []:=by
 have hn:=hO.n
 have h12:=(an.1 hN.ok).2.1
 have hz:=hN.sz
 have hc':=hc
 simp only[cl,Bool.and_eq_true,decide_eq_true_eq]at hc'
 obtain⟨⟨_,hm,hR1,hR,hl0⟩,hrun⟩:=hc'
 have hco:=CodeOk_d hN hO (R:=R) (by omega)
 rw[hc]at hco
 have hD:=eM N.ts
 (refine spec_ofW _ (by kernel_rfl) Tryz.func10 tD (fnOk (nb rfl) ?_);unfold mp)
 simp only[netA,ii,tens]
 (simp only[Nat.reduceSub,Zl,zn,Nat.reduceAdd,zF];try simp only[af]);(simp only[go_sem,seval,reduceCtorEq,List.replicate])
 (refine aA (hco) ?_ ?_ ?_;(focus (simp only[go_sem,seval,reduceCtorEq,netA,ii,tens];done));(first | rfl | (focus (simp only[go_sem];done))))
 simp(disch:=omega) only[go_sem,seval,reduceCtorEq]
 (refine aA (wL (ts:=N.ts) (by omega) hz.t (bZ hN.ok)) ?_ ?_ ?_;(focus (simp only[go_sem,seval,reduceCtorEq,tens];done));(first | rfl | (focus (simp only[go_sem];done))))
 simp(disch:=omega) only[go_sem,seval,reduceCtorEq,hD]
 (refine aA (rG (N:=N) (R:=R) (by omega) (by omega)) ?_ ?_ ?_;(focus (simp only[go_sem,seval,reduceCtorEq,netA,tens];done));(first | rfl | (focus (simp only[go_sem];done))))
 have r0:(m0 N R).rg.length=R:=by simp [m0]
 have r1:(m0 N R).ld.length=N.ts.length:=by simp [m0]
 have hdr:(aK N.ts).1++List.drop 100 (repI 100 0)=(aK N.ts).1:=by rw[List.drop_of_length_le (by decide),List.append_nil]
 simp(disch:=omega) only[go_sem,seval,reduceCtorEq,mcS,mcC,tens,r0,r1,hdr]
 have hz0:(mTo N ops (m0 N R) 0).1=m0 N R:=rfl
 have hp0:pkC N R ops 0=0:=rfl
 refine aP (ops.length) (mkB 60 576460743713503248) (fun k=>[(32,.d (.int k)),(9,.d (.int (pkC N R ops k)))]) (fun k=>[(4,rgA (mTo N ops (m0 N R) k).1.rg),(5,bA (mTo N ops (m0 N R) k).1.ld)]) (h1:=by first | (simp only[go_sem,seval,reduceCtorEq,nz,na,n1,hz0,hp0];first | done | rfl) | rfl) (h2:=by first | (simp only[go_sem,seval,reduceCtorEq,nz,na,n1,hz0,hp0];first | done | rfl) | rfl) (hr:=fun k hk=> ?_)
 unfold kX
 by_cases hlt:k<ops.length
 ·have d1:(k:Int)<ops.length:=by omega
  have g:=uY hlt
  obtain⟨hM,hr⟩:=BM hN (show R≤1000 by omega) ops k
  have hd:=hM.ld
  have hT:=Cp hN (M:=(mTo N ops (m0 N R) k).1) (by omega) (oF hN k)
  have om:=List.getElem_mem hlt
  have kd:=hO.kd _ om
  have kL:=hO.L _ om
  have hgk:ops.getD k ⟨3,0,0,0,[]⟩=ops[k]:=by simp [zq,hlt]
  have hko:=(mH hrun hlt).1
  rw[hgk]at hko
  have hnx:(mTo N ops (m0 N R) (k+1)).1=exec N (mTo N ops (m0 N R) k).1 ops[k]:=by simp only[mTo,hgk]
  have hpk:pkC N R ops (k+1)=max (if ops[k].kind=2 then max (pkC N R ops k) (totM N (mTo N ops (m0 N R) k).1+psz N (exL N (mTo N ops (m0 N R) k).1 ops[k])) else pkC N R ops k) (totM N (mTo N ops (m0 N R) (k+1)).1):=by rw[pkC,show ops.getD k o3=ops[k]from hgk]
  have hT1:=Cp hN (M:=(mTo N ops (m0 N R) (k+1)).1) (by have:=(BM hN (show R≤1000 by omega) ops (k+1)).2;omega) (oF hN (k+1))
  have hE:=D4 hN (oF (ops:=ops) (R:=R) hN k) ops[k]
  have hb0:=BE (ops:=ops) hN hR k
  have hb1:=BE (ops:=ops) hN hR (k+1)
  rw[hnx]at hT1 hpk
  generalize hMd:(mTo N ops (m0 N R) k).1=M at*
  generalize hod:ops[k]=o at*
  simp(disch:=omega) only[go_sem,seval,reduceCtorEq,d1,g]
  (repeat (refine And.intro (by omega) ?_))
  (refine gp [6,3,4,5,2] [] true (by first | rfl | (simp only[go_sem,seval,reduceCtorEq];done)) (by kernel_rfl) (zd rfl) ?_ _ ?_ (hT) ?_ ?_;(focus (simp only[go_sem,seval,reduceCtorEq,totS,mcC,hr,hd,tens,or_true,true_or,or_self,if_true];done));(focus (simp only[go_sem,seval,reduceCtorEq,totS,mcC,hr,hd,tens,or_true,true_or,or_self,if_true];done));(focus (first | rfl | (simp only[go_sem,seval,reduceCtorEq,totS,mcC,hr,hd,tens,or_true,true_or,or_self,if_true];done))))
  simp(disch:=omega) only[go_sem,seval,reduceCtorEq,totS,mcC,hr,hd,tens,or_true,true_or,or_self,if_true,hD]
  have hin:o.A<M.rg.length∧(o.kind=1→o.B<N.ts.length)∧(o.kind=2→o.B<M.rg.length∧o.C<M.rg.length):=by
   unfold okB oq nY outB opIn at hko
   rcases kd with kd | kd | kd
   ·rw[if_pos kd]at hko
    simp only[Bool.and_eq_true,decide_eq_true_eq]at hko
    exact⟨by omega,fun _=>by omega,fun h=>by omega⟩
   ·rw[if_neg (by omega),if_pos kd]at hko
    simp only[Bool.and_eq_true,decide_eq_true_eq]at hko
    exact⟨by omega,fun h=>by omega,fun _=>by omega⟩
   ·rw[if_neg (by omega),if_neg (by omega)]at hko
    simp only[Bool.and_eq_true,decide_eq_true_eq]at hko
    exact⟨by omega,fun h=>by omega,fun h=>by omega⟩
  have hx:=yf hN hM kL kd hin.1 hin.2.1 hin.2.2
  obtain⟨x1,x2⟩:=wF N M o
  rw[hr]at x1
  rw[hd]at x2
  (refine am [3,4,5] [] true (zd rfl) ?_ _ ?_ (hx) ?_ ?_;(focus (simp only[go_sem,seval,reduceCtorEq,mcS,mcC,opA,hr,hd,tens,or_true,true_or,or_self,if_true];done));(focus (simp only[go_sem,seval,reduceCtorEq,mcS,mcC,opA,hr,hd,tens,or_true,true_or,or_self,if_true];done));(focus (first | rfl | (simp only[go_sem,seval,reduceCtorEq,mcS,mcC,opA,hr,hd,tens,or_true,true_or,or_self,if_true];done))))
  simp(disch:=omega) only[go_sem,seval,reduceCtorEq,mcS,mcC,x1,x2,tens,or_true,true_or,or_self,if_true,hD]
  have hEs:=hE.sz hN
  have hEl:=hE.len hN
  have hE6:=hE.six hN
  have hEn:=hE.1
  have hts:aY (exL N M o) ((exL N M o).map (atT (aK N.ts).1))=psz N (exL N M o):=by
   unfold psz
   rw[hE.map hN, ← Sem.Df]
   exact Sem.Bt hEn hE6
  have hdz:∀ x∈(exL N M o).map (atT (aK N.ts).1),I64 x:=fun x hx=>by
   obtain⟨y,hy,rfl⟩:=List.mem_map.1 hx
   rw[hE.at hN y hy]
   have:=gf (x:=y)
   unfold I64
   omega
  have hTk:List.take 100 (aK N.ts).1=(aK N.ts).1:=zt (by omega)
  have hml:((exL N M o).map (atT (aK N.ts).1)).length=(exL N M o).length:=List.length_map ..
  have htE:List.take (exL N M o).length ((exL N M o).map (atT (aK N.ts).1))=(exL N M o).map (atT (aK N.ts).1):=zt (by omega)
  have hsz:=g9 (t:=⟨exL N M o,(exL N M o).map (atT (aK N.ts).1),[]⟩) ⟨⟨by show (exL N M o).length≤_;omega,fun x hx=>by have:=hE6 x hx;unfold I64;omega⟩,⟨by show ((exL N M o).map _).length≤_;rw[hml];omega,hdz⟩,⟨by simp,fun x hx=>by cases hx⟩⟩
  rw[hts]at hsz
  have hax:=sG (D:=(aK N.ts).1) (L:=exL N M o) hD (by omega) (fun x hx=>by have:=hE6 x hx;omega)
  have hmv:(psz N (exL N M o)== -1)=false:=by rw[beq_eq_false_iff_ne];omega
  have htb:=lD hN (M:=M) (by rw[← hMd];exact oF hN k) M.rg.length
  have htm:totM N M=fD N M M.rg.length:=rfl
  generalize psz N (exL N M o)=z at*
  (refine aA (hax) ?_ ?_ ?_;(focus (simp only[go_sem,seval,reduceCtorEq,hTk];done));(first | rfl | (focus (simp only[go_sem];done))))
  simp(disch:=omega) only[go_sem,seval,reduceCtorEq]
  (refine aA (hsz) ?_ ?_ ?_;(focus (simp only[go_sem,seval,reduceCtorEq,tenA,hml,htE];done));(first | rfl | (focus (simp only[go_sem];done))))
  simp(disch:=omega) only[go_sem,seval,reduceCtorEq,hmv]
  by_cases hk2:o.kind=2
  ·have e2:((o.kind:Int)==2)=true:=by rw[beq_iff_eq];omega
   rw[if_pos hk2]at hpk
   simp(disch:=omega) only[go_sem,seval,reduceCtorEq,e2]
   (repeat (refine And.intro (by omega) ?_))
   (refine gp [6,3,4,5,2] [] true (by first | rfl | (simp only[go_sem,seval,reduceCtorEq];done)) (by kernel_rfl) (zd rfl) ?_ _ ?_ (hT1) ?_ ?_;(focus (simp only[go_sem,seval,reduceCtorEq,totS,mcC,x1,x2,tens,or_true,true_or,or_self,if_true];done));(focus (simp only[go_sem,seval,reduceCtorEq,totS,mcC,x1,x2,tens,or_true,true_or,or_self,if_true];done));(focus (first | rfl | (simp only[go_sem,seval,reduceCtorEq,totS,mcC,x1,x2,tens,or_true,true_or,or_self,if_true];done))))
   simp(disch:=omega) only[go_sem,seval,reduceCtorEq,totS,mcC,x1,x2,tens,or_true,true_or,or_self,if_true]
   (repeat (refine And.intro (by omega) ?_))
   (refine Next.drop (mkB 60 576460743713503248) (by omega) (h1:= ?_) (h2:= ?_)<;>first | (simp only[go_sem,seval,reduceCtorEq,nz,na,n1,hpk,hnx];first | done | rfl) | rfl | skip)
  ·have e2:((o.kind:Int)==2)=false:=by rw[beq_eq_false_iff_ne];omega
   rw[if_neg hk2]at hpk
   simp(disch:=omega) only[go_sem,seval,reduceCtorEq,e2]
   (repeat (refine And.intro (by omega) ?_))
   (refine gp [6,3,4,5,2] [] true (by first | rfl | (simp only[go_sem,seval,reduceCtorEq];done)) (by kernel_rfl) (zd rfl) ?_ _ ?_ (hT1) ?_ ?_;(focus (simp only[go_sem,seval,reduceCtorEq,totS,mcC,x1,x2,tens,or_true,true_or,or_self,if_true];done));(focus (simp only[go_sem,seval,reduceCtorEq,totS,mcC,x1,x2,tens,or_true,true_or,or_self,if_true];done));(focus (first | rfl | (simp only[go_sem,seval,reduceCtorEq,totS,mcC,x1,x2,tens,or_true,true_or,or_self,if_true];done))))
   simp(disch:=omega) only[go_sem,seval,reduceCtorEq,totS,mcC,x1,x2,tens,or_true,true_or,or_self,if_true]
   (repeat (refine And.intro (by omega) ?_))
   (refine Next.drop (mkB 60 576460743713503248) (by omega) (h1:= ?_) (h2:= ?_)<;>first | (simp only[go_sem,seval,reduceCtorEq,nz,na,n1,hpk,hnx];first | done | rfl) | rfl | skip)
 ·have d1:¬ (k:Int)<ops.length:=by omega
  obtain rfl:k=ops.length:=by omega
  simp(disch:=omega) only[go_sem,seval,reduceCtorEq,d1]
  (refine zE ?_ ?_<;>try simp only[go_sem,seval,reduceCtorEq])
end Go.Proofs.YtjfmckhbmdjnpaaGreat
