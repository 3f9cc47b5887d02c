/-
 Plain: orders completed by pairs of what is there; sorted orders. No condition.
-/
import Derived.Test.YtneocijmbnhblaaGreatSorB
import Derived.Test.YtneocijmbnhblaaGreatOrdT
import Derived.Test.YtneocijmbnhblaaGreatOrdF
import Derived.Test.YtneocijmbnhblaaGreatGenH
set_option linter.unusedSimpArgs false
set_option linter.unusedVariables false
namespace Go.Proofs.YtneocijmbnhblaaGreat
open Go.RowKit Go.Lift Plain
section
variable {os F G : List Int} {s : Osd}
theorem sS {c:Nat} (h:∀ j,j<c*2→G.getD j 0=F.getD j 0):∀ k,k≤c→bm os G s k=bm os F s k
 | 0,_=>rfl
 | k+1,hk=>by rw[bm,bm,sS h k (by omega),h (k*2) (by omega),h (k*2+1) (by omega)]
theorem Af {c:Nat} {X:List Int} (hl:c*2≤F.length):∀ j,j<c*2→(F.take (c*2)++X).getD j 0=F.getD j 0:=fun j hj=>by
 rw[zq,zq,List.getElem?_append_left (by rw[List.length_take];omega),List.getElem?_take,if_pos hj]
theorem xz {c:Nat} {ps:List (Nat × Nat)} (hl:c*2≤F.length) {j:Nat} (hj:j<ps.length):(F.take (c*2)++aW ps).getD ((c+j)*2) 0=ps[j].1∧(F.take (c*2)++aW ps).getD ((c+j)*2+1) 0=ps[j].2:=by
 have e:(F.take (c*2)).length=c*2:=by rw[List.length_take];omega
 have h:=gN ps j hj
 rw[zq,zq,List.getElem?_append_right (by omega),List.getElem?_append_right (by omega),e,show (c+j)*2-c*2=j*2 by omega,show (c+j)*2+1-c*2=j*2+1 by omega, ← zq, ← zq]
 exact h
theorem Bv:∀ {l:List Nat} {p:Nat × Nat},l.Pairwise (· < ·)→p∈prs l→p.1<p.2
 | x :: l,p,h,hp=>by
  rw[List.pairwise_cons]at h
  simp only[prs,List.mem_append,List.mem_map]at hp
  rcases hp with ⟨y,hy,rfl⟩ | hp
  ·exact h.1 y hy
  ·exact Bv h.2 hp
theorem DM {p:Nat × Nat} (h:p∈prs s.nums):dD s p.1 p.2=true:=by
 have h1:=pD h
 have h2:=Bv (vT s) h
 exact decide_eq_true ⟨eo.2 ⟨_,h1.1,rfl⟩,eo.2 ⟨_,h1.2,rfl⟩,by omega⟩
theorem vR {c:Nat} (h:(bm os F s c).2=true) (hl:c*2≤F.length) {S:Nat→Osd} {ps:List (Nat × Nat)} (h0:S 0=(bm os F s c).1)
  (hs:∀ j (hj:j<ps.length),ps[j]∈prs (S j).nums∧S (j+1)=(S j).step os ps[j].1 ps[j].2):∀ j,j≤ps.length→bm os (F.take (c*2)++aW ps) s (c+j)=(S j,true)
 | 0,_=>by
  rw[Nat.add_zero,sS (Af hl) c (Nat.le_refl _),h0, ← h]
 | j+1,hj=>by
  have ih:=vR h hl h0 hs j (by omega)
  obtain⟨h1,h2⟩:=hs j (by omega)
  obtain⟨g1,g2⟩:=xz (F:=F) hl (show j<ps.length by omega)
  rw[← Nat.add_assoc,bm,ih,g1,g2,DM h1,h2]
  rfl
end
section
variable {N : Net} {n : Nat} {F : List Int}
theorem ns (hok:am N n F=true):∀ k,k≤n→(ordS N F k).nums.length+k=N.ts.length
 | 0,_=>by rw[show (ordS N F 0).nums=_ from dj N.ts,List.length_range];omega
 | k+1,hk=>by
  have ih:=ns hok k (by omega)
  have hs:=cl hok (show k<n by omega)
  have ho:=(cQ hok k (by omega)).ok
  have:=yp (bR _) hs.ma hs.mb (by have:=hs.lt;omega)
  rw[hs.nx,d8 ho,List.length_append,List.length_singleton]
  omega
theorem yE (hok:am N n F=true) (hl:F.length=n*2) {c q:Nat} (hq:c+q=n) {S:Nat→Osd} {ps:List (Nat × Nat)} (hp:ps.length=q) (h0:S 0=ordS N F c)
  (hs:∀ j (hj:j<ps.length),ps[j]∈prs (S j).nums∧S (j+1)=(S j).step N.os ps[j].1 ps[j].2):
  am N n (F.take (c*2)++aW ps)=true∧StpSz 1048576 n (F.take (c*2)++aW ps):=by
 obtain⟨h1,h2,h3⟩:=ao.1 hok
 have hn12:=(an.1 h1).2.1
 have hg:=vR (F:=F) (fi h3 (show c≤n by omega)) (by omega) h0 hs q (by omega)
 have hv:am N n (F.take (c*2)++aW ps)=true:=ao.2 ⟨h1,h2,by rw[← hq,hg]⟩
 have hgl:(F.take (c*2)++aW ps).length=n*2:=by rw[List.length_append,List.length_take,fr];omega
 exact⟨hv,hgl,by omega,nl hv hgl⟩
theorem tl {T os:List Int} {r:Grd} {m q:Nat} (h:GrdOk T r.s m (q+1)) (hp:r.ps=[]):∀ k,k≤q→∀ j (hj:j<(bJ T os r k).ps.length),(bJ T os r k).ps[j]=grdP T os (bJ T os r j).s
 | 0,_,j,hj=>by simp [bJ,hp]at hj
 | k+1,hk,j,hj=>by
  have hl:=kh T os r k
  rw[hp,zn,Nat.zero_add]at hl
  have e:(bJ T os r (k+1)).ps=(bJ T os r k).ps++[grdP T os (bJ T os r k).s]:=rfl
  have hj':j<k+1:=by rw[e,List.length_append,List.length_singleton,hl]at hj;exact hj
  by_cases hjk:j=k
  ·subst hjk
   simp only[e]
   rw[List.getElem_append_right (by omega)]
   simp
  ·simp only[e]
   rw[List.getElem_append_left (by omega)]
   exact tl h hp k (by omega) j (by omega)
theorem Cg (hok:am N n F=true) (hl:F.length=n*2) {c q:Nat} (hq:c+q=n) (hm:0<N.ts.length):
  GrdOk (aK N.ts).1 (ordS N F c) (N.ts.length+c) (q+1)∧am N n (F.take (c*2)++aW (bJ (aK N.ts).1 N.os ⟨ordS N F c,[]⟩ q).ps)=true∧StpSz 1048576 n (F.take (c*2)++aW (bJ (aK N.ts).1 N.os ⟨ordS N F c,[]⟩ q).ps):=by
 have ho:=cQ hok c (by omega)
 have hnl:=ns hok c (by omega)
 have hn:=(ao.1 hok).2.1
 have h0:GrdOk (aK N.ts).1 (ordS N F c) (N.ts.length+c) (q+1):=⟨ho.ok,by omega,ho.t⟩
 have hps:=kh (aK N.ts).1 N.os ⟨ordS N F c,[]⟩ q
 rw[zn,Nat.zero_add]at hps
 refine⟨h0,yE hok hl hq hps (S:=fun j=>(bJ (aK N.ts).1 N.os ⟨ordS N F c,[]⟩ j).s) rfl fun j hj=> ?_⟩
 have hk:=rb (os:=N.os) (r:=⟨ordS N F c,[]⟩) h0 j (by omega)
 have hnn:=hk.n
 rw[show q+1-j=(q-(j+1))+2 by omega]at hnn
 rw[tl (r:=⟨ordS N F c,[]⟩) h0 rfl q (Nat.le_refl _) j hj]
 exact⟨wn hnn,rfl⟩
theorem sJ {os:List Int} {r:Rnd} {m q:Nat} (h:RndOk os r m (q+1)) (hp:r.ps=[]):∀ k,k≤q→∀ j (hj:j<(be os r k).ps.length),(be os r k).ps[j]∈prs (be os r j).s.nums∧(be os r (j+1)).s=(be os r j).s.step os (be os r k).ps[j].1 (be os r k).ps[j].2
 | 0,_,j,hj=>by simp [be,hp]at hj
 | k+1,hk,j,hj=>by
  have hl:=jK os r k
  rw[hp,zn,Nat.zero_add]at hl
  have hR:=qe h k (by omega)
  have hn:=hR.n
  rw[show q+1-k=(q-(k+1))+2 by omega]at hn
  obtain⟨c,hc,e1,e2,e3⟩:=qd hn (bA (be os r k).seed)
  have e:(be os r (k+1)).ps=(be os r k).ps++[(prs (be os r k).s.nums)[c]]:=by
   show (g6 os (be os r k)).ps=_
   simp only[g6,e1,e2]
  have e':(be os r (k+1)).s=(be os r k).s.step os (prs (be os r k).s.nums)[c].1 (prs (be os r k).s.nums)[c].2:=by
   show (g6 os (be os r k)).s=_
   simp only[g6,e1,e2]
  have hj':j<k+1:=by rw[e,List.length_append,List.length_singleton,hl]at hj;exact hj
  by_cases hjk:j=k
  ·subst hjk
   have:(be os r (j+1)).ps[j]=(prs (be os r j).s.nums)[c]:=by
    simp only[e]
    rw[List.getElem_append_right (by omega)]
    simp
   rw[this]
   exact⟨e3,e'⟩
  ·have:(be os r (k+1)).ps[j]=(be os r k).ps[j]'(by omega):=by
    simp only[e]
    rw[List.getElem_append_left (by omega)]
   rw[this]
   exact sJ h hp k (by omega) j (by omega)
theorem vB (hok:am N n F=true) (hl:F.length=n*2) {c q:Nat} (hq:c+q=n) (hm:0<N.ts.length) (x:Int):
  RndOk N.os ⟨ordS N F c,x,[]⟩ (N.ts.length+c) (q+1)∧am N n (F.take (c*2)++aW (be N.os ⟨ordS N F c,x,[]⟩ q).ps)=true∧StpSz 1048576 n (F.take (c*2)++aW (be N.os ⟨ordS N F c,x,[]⟩ q).ps):=by
 have ho:=cQ hok c (by omega)
 have hnl:=ns hok c (by omega)
 have hn:=(ao.1 hok).2.1
 have h0:RndOk N.os ⟨ordS N F c,x,[]⟩ (N.ts.length+c) (q+1):=⟨ho.ok,by show (ordS N F c).nums.length=_;omega⟩
 have hps:=jK N.os ⟨ordS N F c,x,[]⟩ q
 rw[zn,Nat.zero_add]at hps
 exact⟨h0,yE hok hl hq hps (S:=fun j=>(be N.os ⟨ordS N F c,x,[]⟩ j).s) rfl fun j hj=>sJ (r:=⟨ordS N F c,x,[]⟩) h0 rfl q (Nat.le_refl _) j hj⟩
structure Imp where
 F:List Int
 x:Int
def impC (n:Nat) (x:Int):Nat:=((bA x).toNat / 65536) % n
def impR (N:Net) (n:Nat) (r:Imp):Rnd:=be N.os ⟨ordS N r.F (impC n r.x),bA r.x,[]⟩ (n-impC n r.x)
def impG (N:Net) (n:Nat) (r:Imp):List Int:=r.F.take (impC n r.x*2)++aW (impR N n r).ps
noncomputable def eU (N:Net) (n:Nat) (r:Imp):Nat→Imp
 | 0=>r
 | k+1=>⟨if bg N n (impG N n (eU N n r k))<bg N n (eU N n r k).F then impG N n (eU N n r k) else (eU N n r k).F,(impR N n (eU N n r k)).seed⟩
theorem yD {n:Nat} (h:0<n) (x:Int):impC n x<n:=Nat.mod_lt _ h
theorem yC (hn:0<n) {r:Imp} (hok:am N n r.F=true) (hl:r.F.length=n*2):am N n (impG N n r)=true∧StpSz 1048576 n (impG N n r):=by
 have h:=yD hn r.x
 have hm:0<N.ts.length:=by have:=(ao.1 hok).2.1;omega
 exact(vB hok hl (show impC n r.x+(n-impC n r.x)=n by omega) hm (bA r.x)).2
theorem r8 (hn:0<n) {r:Imp} (hok:am N n r.F=true) (hF:StpSz 1048576 n r.F):∀ k,am N n (eU N n r k).F=true∧StpSz 1048576 n (eU N n r k).F∧bg N n (eU N n r k).F≤bg N n r.F
 | 0=>⟨hok,hF,Int.le_refl _⟩
 | k+1=>by
  obtain⟨h1,h2,h3⟩:=r8 hn hok hF k
  obtain⟨g1,g2⟩:=yC hn h1 h2.l
  simp only[eU]
  split
  ·exact⟨g1,g2,by omega⟩
  ·exact⟨h1,h2,h3⟩
theorem yk (T:List Int) (x:Int):∀ L:List (List Int),pk T L≤x↔1≤x∧∀ l∈L,capP T l≤x:=by
 intro L
 have key:∀ (L:List (List Int)) (p:Int),L.foldl (fun p l=>max p (capP T l)) p≤x↔p≤x∧∀ l∈L,capP T l≤x:=by
  intro L
  induction L with
  | nil=>intro p;simp
  | cons a L ih=>
   intro p
   rw[List.foldl_cons,ih,Int.max_le,and_assoc]
   simp only[List.mem_cons,forall_eq_or_imp]
 exact key L 1
theorem GU {T:List Int} {A B:List (List Int)} (h1:∀ a∈A,∃ b∈B,capP T a=capP T b) (h2:∀ b∈B,∃ a∈A,capP T a=capP T b):pk T A=pk T B:=by
 have hA:=(yk T (pk T A) A).1 (Int.le_refl _)
 have hB:=(yk T (pk T B) B).1 (Int.le_refl _)
 refine Int.le_antisymm ((yk T _ A).2 ⟨hB.1,fun a ha=> ?_⟩) ((yk T _ B).2 ⟨hA.1,fun b hb=> ?_⟩)
 ·obtain⟨b,hb,e⟩:=h1 a ha
  rw[e];exact hB.2 b hb
 ·obtain⟨a,ha,e⟩:=h2 b hb
  rw[← e];exact hA.2 a ha
theorem vm (hok:am N n F=true) (hl:F.length=n*2):jH N n F=n∧am N n (dX N n F)=true∧StpSz 1048576 n (dX N n F)∧bg N n (dX N n F)=bg N n F∧d7 N n (dX N n F)=d7 N n F∧dX N n (dX N n F)=dX N n F:=by
 have hn12:=(an.1 (ao.1 hok).1).2.1
 have hnm:=(ao.1 hok).2.1
 rcases Nat.eq_zero_or_pos n with h0 | h0
 ·subst h0
  have hF:F=[]:=List.eq_nil_of_length_eq_zero (by omega)
  have e:∀ G,l5 N 0 G=[]:=fun G=>if_neg (by omega)
  have e2:∀ G,dX N 0 G=[]:=fun G=>by rw[dX,e];rfl
  rw[e2,e2,hF]
  rw[hF]at hok
  exact⟨by rw[jH,e];rfl,hok,⟨rfl,by omega,fun x hx=>by cases hx⟩,rfl,rfl,rfl⟩
 ·have eL:l5 N n F=(walk N.ts.length F (N.ts.length+n-1) []).1:=if_pos ⟨hok,h0⟩
  obtain⟨s1,s2⟩:=ln hok h0
  have c1:=zh hok h0
  obtain⟨z1,z2⟩:=x3 hok h0 (aK N.ts).1
  have w1:=(gz (stOk hok) (N.ts.length+n-1) (by omega) []).2.2 (by omega)
  have w2:=wV (stOk hok) (N.ts.length+n-1) (by omega) [] (G:=aW (walk N.ts.length F (N.ts.length+n-1) []).1) (fun j hj _=>by
   obtain⟨a,b⟩:=gN (walk N.ts.length F (N.ts.length+n-1) []).1 j hj
   unfold stA stB
   rw[a,b]
   exact⟨rfl,rfl⟩)
  have w3:(walk N.ts.length F (N.ts.length+n-1) []).2=N.ts.length+n-1:=by omega
  rw[w3]at w2
  have hfl:(aW (walk N.ts.length F (N.ts.length+n-1) []).1).length=n*2:=by rw[fr,s1]
  have eF:dX N n F=aW (walk N.ts.length F (N.ts.length+n-1) []).1:=by rw[dX,eL]
  have eF2:dX N n (aW (walk N.ts.length F (N.ts.length+n-1) []).1)=aW (walk N.ts.length F (N.ts.length+n-1) []).1:=by
   rw[dX,show l5 N n (aW (walk N.ts.length F (N.ts.length+n-1) []).1)=(walk N.ts.length (aW (walk N.ts.length F (N.ts.length+n-1) []).1) (N.ts.length+n-1) []).1 from if_pos ⟨s2,h0⟩,w2]
  have eN:jH N n F=n:=by rw[jH,eL,s1]
  rw[eF]
  generalize aW (walk N.ts.length F (N.ts.length+n-1) []).1=G at*
  refine⟨eN,s2,⟨hfl,by omega,nl s2 hfl⟩, ?_, ?_,eF2⟩
  ·unfold bg
   rw[if_pos s2,if_pos hok,c1]
  ·unfold d7
   rw[if_pos s2,if_pos hok]
   have hlen:∀ X,am N n X=true→(ordS N X n).all.length=N.ts.length+n:=fun X hX=>(cQ hX n (Nat.le_refl _)).ok.n
   have hlab:∀ (X:List Int) v (hv:v<(ordS N X n).all.length),(ordS N X n).lab v=(ordS N X n).all[v]:=fun X v hv=>by simp [Osd.lab,hv]
   have lF:=hlen F hok
   have lG:=hlen G s2
   refine GU (fun a ha=> ?_) fun b hb=> ?_
   ·obtain⟨v,hv,rfl⟩:=List.getElem_of_mem ha
    obtain⟨w,hw,e⟩:=z1 v (by omega)
    rw[hlab G v hv,hlab F w (by omega)]at e
    exact⟨_,List.getElem_mem _,e⟩
   ·obtain⟨w,hw,rfl⟩:=List.getElem_of_mem hb
    obtain⟨v,hv,e⟩:=z2 w (by omega)
    rw[hlab G v (by omega),hlab F w hw]at e
    exact⟨_,List.getElem_mem _,e⟩
end
end Go.Proofs.YtneocijmbnhblaaGreat
namespace Go.Lift
theorem Does.fzSB {P:Program} {f:FuncId} {args:List AV} {g:Bool} {n e:Nat} {c:List AV} {ls:List D} {x:D} (h:Does P f args [] (.tup [.own 0 0 n,.d x]) [some ⟨e,g,c⟩]) (hc:du c=some ls) (hl:ls.length=n*e):Does P f args [] (.tup [.d (.sl n ls),.d x]) []:=by
 refine Does.noneS (Does.wk0 h (Wk.freeze 0 (R:=⟨e,g,c⟩) (ls:=ls) (Nat.le_refl _) rfl hc ?_ rfl))
 simp only[mapL,mapA,fzG,if_true,List.drop_zero]
 rw[zt (by rw[hl];exact Nat.le_refl _)]
end Go.Lift
namespace Go.Proofs.YtneocijmbnhblaaGreat
open Go.RowKit Go.Lift Plain
set_option maxRecDepth 100000
theorem ic {n:Nat} {F:List Int} (h:StpSz 1048576 n F):Does Tryz.prog 48 [.d (stp n F)] [] (.own 0 0 n) [some ⟨2,true,iv F⟩]:=by
 have hn:=h.n
 have hl:=h.l
 have ht:=u5 h
 (refine spec_of (by kernel_rfl) Tryz.func48 nP (fnOk (nb rfl) ?_);unfold C_impl_copySteps)
 (simp only[Nat.reduceSub,Zl,zn,Nat.reduceAdd,zF];try simp only[ae]);(simp only[go_sem,seval,reduceCtorEq,List.replicate])
 have hle:n*2≤F.length:=by omega
 simp(disch:=omega) only[go_sem,seval,reduceCtorEq,ht,hle,if_true]
 refine⟨by omega, ?_⟩
 (refine zE ?_ ?_<;>try simp only[go_sem,seval,reduceCtorEq])
theorem oT {n:Nat} {F:List Int} (h:StpSz 1048576 n F):Does Tryz.prog 48 [.d (stp n F)] [] (.d (stp n F)) []:=Does.fzS (g:=true) (ic h) h.l
theorem q9 {n:Nat} {F:List Int} (h:StpSz 1048576 n F):Does Tryz.prog 24 [.d (stp n F),.d (stp n F)] [] (.d (.bool true)) []:=by
 have hn:=h.n
 have hl:=h.l
 have c0:((n:Int)==n)=true:=by simp
 (refine spec_of (by kernel_rfl) Tryz.func24 uw (fnOk (nb rfl) ?_);unfold C_laws_steps)
 (simp only[Nat.reduceSub,Zl,zn,Nat.reduceAdd,zF];try simp only[ae]);(simp only[go_sem,seval,reduceCtorEq,List.replicate])
 refine aH (n) (mkB 32 134216816) (fun k=>[(9,.d (.int k))]) (fun k=>[]) (h1:=by first | (simp only[go_sem,seval,reduceCtorEq,nz,na,n1];first | done | rfl) | rfl) (h2:=by first | (simp only[go_sem,seval,reduceCtorEq,nz,na,n1];first | done | rfl) | rfl) (hr:=fun k hk=> ?_)
 unfold L0_laws_steps
 by_cases hlt:k<n
 ·have d1:(k:Int)<n:=by omega
  have d2:¬ (k:Int)≥n:=by omega
  have g:=iX h hlt
  simp(disch:=omega) only[go_sem,seval,reduceCtorEq,d1,d2,g,lL]
  (repeat (refine And.intro (by omega) ?_))
  (refine Next.drop (mkB 32 134216816) (by omega) (h1:= ?_) (h2:= ?_)<;>first | (simp only[go_sem,seval,reduceCtorEq,nz,na,n1];first | done | rfl) | rfl | skip)
 ·have d1:¬ (k:Int)<n:=by omega
  simp(disch:=omega) only[go_sem,seval,reduceCtorEq,d1,c0]
  (refine zE ?_ ?_<;>try simp only[go_sem,seval,reduceCtorEq])
theorem xZ {N:Net} {n c:Nat} {F:List Int} (hF:StpSz 1048576 n F) (hc:c≤n):StpSz 1048576 c (F.take (c*2)):=by
 have hl:=hF.l
 have hn:=hF.n
 exact⟨by rw[List.length_take];omega,by omega,fun x hx=>hF.wf x (List.mem_of_mem_take hx)⟩
theorem CompleteOrder_d {N:Net} (hN:Gen6 N) {n c:Nat} {F:List Int} (hok:am N n F=true) (hF:StpSz 1048576 n F) (hc:c≤n):
  ∃ G:List Int,(am N n G=true∧StpSz 1048576 n G∧(c=n→G=F))∧Does Tryz.prog 20 [netA N,.d (stp c (F.take (c*2)))] [] (.tup [.d (stp n G),.d (.bool true)]) []:=by
 have hz:=hN.sz
 have hD:=dV N.ts
 have hl:=hF.l
 have hn:=hF.n
 have hol:=hz.o.len
 have h12:=(an.1 hN.ok).2.1
 have hnN:=(ao.1 hok).2.1
 have hcz:=xZ (N:=N) hF hc
 have hz0:ordS N F 0=aq N.ts:=rfl
 have hpre:∀ k,k<c→List.take 2 (List.drop (k*2) (List.take (c*2) F))=[(stA F k:Int),(stB F k:Int)]:=fun k hk=>by
  have hs:=cl hok (show k<n by omega)
  rw[List.drop_take,List.take_take,Nat.min_eq_left (by omega),iX hF (show k<n by omega),hs.a,hs.b]
 by_cases hm:N.ts.length=0
 ·obtain rfl:n=0:=by omega
  obtain rfl:c=0:=by omega
  have hF0:F=[]:=List.eq_nil_of_length_eq_zero (by omega)
  refine⟨F,⟨hok,hF,fun _=>rfl⟩, ?_⟩
  subst hF0
  have hgr:=si (T:=(aK N.ts).1) (os:=N.os) (r0:=⟨aq N.ts,[]⟩) hD (by rw[dj,List.length_range,hm])
  refine Does.fzSB (g:=true) (c:=[]) (e:=2) (ls:=[]) ?_ rfl rfl
  (refine spec_of (by kernel_rfl) Tryz.func20 fR (fnOk (nb rfl) ?_);unfold C_impl_CompleteOrder)
  (simp only[Nat.reduceSub,Zl,zn,Nat.reduceAdd,zF];try simp only[ae]);(simp only[go_sem,seval,reduceCtorEq,List.replicate])
  (refine zC (g9 hz) ?_)
  simp only[go_sem,seval,reduceCtorEq,hN.ok]
  (refine aZ (dr hz hN.ok) ?_ ?_ ?_;(focus (simp only[go_sem,seval,reduceCtorEq,osR,lvS];done));(first | rfl | (focus (simp only[go_sem];done))))
  simp only[go_sem,seval,reduceCtorEq,osR,lvS]
  generalize hT:(aK N.ts).1=T at*
  refine aH (0) (mkB 30 33423664) (fun k=>[(16,.d (.int k))]) (fun k=>[]) (h1:=by first | (simp only[go_sem,seval,reduceCtorEq,nz,na,n1];first | done | rfl) | rfl) (h2:=by first | (simp only[go_sem,seval,reduceCtorEq,nz,na,n1];first | done | rfl) | rfl) (hr:=fun k hk=> ?_)
  unfold L0_impl_CompleteOrder
  obtain rfl:k=0:=by omega
  have d1:¬ (0:Int)<(0:Nat):=by omega
  simp(disch:=omega) only[go_sem,seval,reduceCtorEq,d1,Int.natCast_zero]
  (refine zC (ic hcz) ?_)
  simp only[go_sem,seval,reduceCtorEq]
  (refine ai [1] [] false (zd rfl) ?_ _ ?_ (hgr) ?_ ?_;(focus (simp only[go_sem,seval,reduceCtorEq,osR,lvS];done));(focus (simp only[go_sem,seval,reduceCtorEq,osR,lvS];done));(focus (first | rfl | (simp only[go_sem,seval,reduceCtorEq,osR,lvS];done))))
  simp only[go_sem,seval,reduceCtorEq,osR]
  (refine zE ?_ ?_<;>try simp only[go_sem,seval,reduceCtorEq])
 obtain⟨q,hq⟩:∃ q,c+q=n:=⟨n-c,by omega⟩
 obtain⟨g1,g2,g3⟩:=Cg hok hl hq (by omega)
 refine⟨_,⟨g2,g3,fun e=> ?_⟩, ?_⟩
 ·obtain rfl:q=0:=by omega
  have:aW (bJ (aK N.ts).1 N.os ⟨ordS N F c,[]⟩ 0).ps=[]:=rfl
  rw[this,List.append_nil,zt (by omega)]
 have hgr:=sg (T:=(aK N.ts).1) (os:=N.os) (r0:=⟨ordS N F c,[]⟩) hD g1 (by omega) (by omega) rfl
 have hfl:=fr (bJ (aK N.ts).1 N.os ⟨ordS N F c,[]⟩ q).ps
 have hps:=kh (aK N.ts).1 N.os ⟨ordS N F c,[]⟩ q
 rw[zn,Nat.zero_add]at hps
 have hl3:=g3.l
 rw[hps]at hfl
 have htl:(F.take (c*2)).length=c*2:=by rw[List.length_take];omega
 have hc1:iv (F.take (c*2))++iv (aW (bJ (aK N.ts).1 N.os ⟨ordS N F c,[]⟩ q).ps)=iv (F.take (c*2)++aW (bJ (aK N.ts).1 N.os ⟨ordS N F c,[]⟩ q).ps):=by simp [iv]
 refine Does.fzSB (g:=true) (c:=iv (F.take (c*2)++aW (bJ (aK N.ts).1 N.os ⟨ordS N F c,[]⟩ q).ps)) (e:=2) ?_ bI (by rw[cJ,hl3])
 generalize (bJ (aK N.ts).1 N.os ⟨ordS N F c,[]⟩ q).s=S2 at*
 generalize aW (bJ (aK N.ts).1 N.os ⟨ordS N F c,[]⟩ q).ps=P2 at*
 (refine spec_of (by kernel_rfl) Tryz.func20 fR (fnOk (nb rfl) ?_);unfold C_impl_CompleteOrder)
 (simp only[Nat.reduceSub,Zl,zn,Nat.reduceAdd,zF];try simp only[ae]);(simp only[go_sem,seval,reduceCtorEq,List.replicate])
 (refine zC (g9 hz) ?_)
 simp only[go_sem,seval,reduceCtorEq,hN.ok]
 (refine aZ (dr hz hN.ok) ?_ ?_ ?_;(focus (simp only[go_sem,seval,reduceCtorEq,osR,lvS];done));(first | rfl | (focus (simp only[go_sem];done))))
 simp only[go_sem,seval,reduceCtorEq,osR,lvS]
 generalize hT:(aK N.ts).1=T at*
 refine aH (c) (mkB 30 33423664) (fun k=>[(16,.d (.int k))]) (fun k=>[(1,osB T (.d (ints N.os)) (.d (lvS (ordS N F k))) (.d (.int (ordS N F k).all.length)))]) (h1:=by first | (simp only[go_sem,seval,reduceCtorEq,nz,na,n1,hz0,lvS];first | done | rfl) | rfl) (h2:=by first | (simp only[go_sem,seval,reduceCtorEq,nz,na,n1,hz0,lvS];first | done | rfl) | rfl) (hr:=fun k hk=> ?_)
 unfold L0_impl_CompleteOrder
 by_cases hlt:k<c
 ·have d1:(k:Int)<c:=by omega
  have hs:=cl hok (show k<n by omega)
  have ho:=(cQ hok k (by omega)).ok
  have g:=hpre k hlt
  have hf:=hs.fol
  have hnx:=hs.nx
  rw[hs.a,hs.b]at hf
  have hfo:=cH (D:=T) (os:=N.os) hD ho (by omega) (by omega) hf
  simp only[Int.toNat_natCast]at hfo
  rw[← hnx]at hfo
  simp(disch:=omega) only[go_sem,seval,reduceCtorEq,d1,g,lL]
  refine⟨by omega, ?_⟩
  (refine ai [1] [] false (zd rfl) ?_ _ ?_ (hfo) ?_ ?_;(focus (simp only[go_sem,seval,reduceCtorEq,osR];done));(focus (simp only[go_sem,seval,reduceCtorEq,osR];done));(focus (first | rfl | (simp only[go_sem,seval,reduceCtorEq,osR];done))))
  simp(disch:=omega) only[go_sem,seval,reduceCtorEq,osR,lvS]
  (refine Next.drop (mkB 30 33423664) (by omega) (h1:= ?_) (h2:= ?_)<;>first | (simp only[go_sem,seval,reduceCtorEq,nz,na,n1,lvS];first | done | rfl) | rfl | skip)
 ·have d1:¬ (k:Int)<c:=by omega
  obtain rfl:k=c:=by omega
  simp(disch:=omega) only[go_sem,seval,reduceCtorEq,d1]
  (refine zC (ic hcz) ?_)
  simp only[go_sem,seval,reduceCtorEq]
  (refine ai [1] [] false (zd rfl) ?_ _ ?_ (hgr) ?_ ?_;(focus (simp only[go_sem,seval,reduceCtorEq,osR,lvS];done));(focus (simp only[go_sem,seval,reduceCtorEq,osR,lvS];done));(focus (first | rfl | (simp only[go_sem,seval,reduceCtorEq,osR,lvS];done))))
  have hle:q*2≤P2.length:=by omega
  have htq:List.take (q*2) P2=P2:=zt (by omega)
  simp(disch:=omega) only[go_sem,seval,reduceCtorEq,osR,hle,htq,if_true]
  refine⟨htl,by omega, ?_⟩
  subst hq
  (refine zE ?_ ?_<;>try simp only[go_sem,seval,reduceCtorEq])
set_option maxHeartbeats 1600000 in
theorem ImproveOrder_d {N:Net} (hN:Gen6 N) {n:Nat} {F:List Int} (hok:am N n F=true) (hF:StpSz 1048576 n F) (x:Int):
  ∃ G:List Int,(am N n G=true∧StpSz 1048576 n G∧bg N n G≤bg N n F)∧Does Tryz.prog 17 [netA N,.d (stp n F),.d (.int x),.d (.int 8)] [] (.tup [.d (stp n G),.d (.bool true)]) []:=by
 have hz:=hN.sz
 have hD:=dV N.ts
 have hn20:=hF.n
 have hol:=hz.o.len
 have h12:=(an.1 hN.ok).2.1
 have hnN:=(ao.1 hok).2.1
 rcases Nat.eq_zero_or_pos n with h0 | h0
 ·subst h0
  refine⟨F,⟨hok,hF,Int.le_refl _⟩, ?_⟩
  (refine spec_of (by kernel_rfl) Tryz.func17 fZ (fnOk (nb rfl) ?_);unfold C_impl_ImproveOrder)
  (simp only[Nat.reduceSub,Zl,zn,Nat.reduceAdd,zF];try simp only[ae]);(simp only[go_sem,seval,reduceCtorEq,List.replicate])
  (refine zC (dN hz hF) ?_)
  simp only[go_sem,seval,reduceCtorEq,hok]
  (refine zC (oT hF) ?_)
  simp only[go_sem,seval,reduceCtorEq,Int.natCast_zero]
  (refine zE ?_ ?_<;>try simp only[go_sem,seval,reduceCtorEq])
 obtain⟨k1,k2,k3⟩:=r8 (N:=N) (r:=⟨F,x⟩) h0 hok hF 8
 refine⟨_,⟨k1,k2,k3⟩, ?_⟩
 have c0:((n:Int)==0)=false:=by rw[beq_eq_false_iff_ne];omega
 have e0:eU N n ⟨F,x⟩ 0=⟨F,x⟩:=rfl
 have hz0:∀ X:List Int,ordS N X 0=aq N.ts:=fun _=>rfl
 (refine spec_of (by kernel_rfl) Tryz.func17 fZ (fnOk (nb rfl) ?_);unfold C_impl_ImproveOrder)
 (simp only[Nat.reduceSub,Zl,zn,Nat.reduceAdd,zF];try simp only[ae]);(simp only[go_sem,seval,reduceCtorEq,List.replicate])
 (refine zC (dN hz hF) ?_)
 simp only[go_sem,seval,reduceCtorEq,hok]
 (refine zC (oT hF) ?_)
 simp only[go_sem,seval,reduceCtorEq,c0]
 refine aH (8) (mkB 83 4835703278458447979589632) (fun k=>[(2,.d (.int (eU N n ⟨F,x⟩ k).x)),(10,.d (stp n (eU N n ⟨F,x⟩ k).F)),(11,.d (.int k))]) (fun k=>[]) (h1:=by first | (simp only[go_sem,seval,reduceCtorEq,nz,na,n1,e0];first | done | rfl) | rfl) (h2:=by first | (simp only[go_sem,seval,reduceCtorEq,nz,na,n1,e0];first | done | rfl) | rfl) (hr:=fun k hk=> ?_)
 unfold L1_impl_ImproveOrder
 by_cases hlt:k<8
 ·have d1:(k:Int)<8:=by omega
  obtain⟨v1,v2,_⟩:=r8 (N:=N) (r:=⟨F,x⟩) h0 hok hF k
  have hnx:eU N n ⟨F,x⟩ (k+1)=⟨if bg N n (impG N n (eU N n ⟨F,x⟩ k))<bg N n (eU N n ⟨F,x⟩ k).F then impG N n (eU N n ⟨F,x⟩ k) else (eU N n ⟨F,x⟩ k).F,(impR N n (eU N n ⟨F,x⟩ k)).seed⟩:=rfl
  generalize eU N n ⟨F,x⟩ k=r at*
  obtain⟨g1,g2⟩:=yC (N:=N) h0 v1 v2.l
  have hxb:=qA (1103515245*jy r.x+12345)
  rw[show jy (1103515245*jy r.x+12345)=bA r.x from rfl]at hxb
  obtain⟨xn,hxn⟩:∃ xn:Nat,bA r.x=xn:=⟨(bA r.x).toNat,by omega⟩
  have t1:(xn:Int).tdiv 65536=((xn / 65536:Nat):Int):=lU xn 65536
  have t2:((xn / 65536:Nat):Int).tmod (n:Int)=(impC n r.x:Int):=by
   rw[vg,impC,hxn,Int.toNat_natCast]
  have t3:(n:Int)≠0:=by omega
  have hc:=yD h0 r.x
  obtain⟨q,hq⟩:∃ q,impC n r.x+q=n:=⟨n-impC n r.x,by omega⟩
  have hm0:0<N.ts.length:=by omega
  obtain⟨r1,_⟩:=vB v1 v2.l hq hm0 (bA r.x)
  have hR:impR N n r=be N.os ⟨ordS N r.F (impC n r.x),bA r.x,[]⟩ q:=by unfold impR;rw[show n-impC n r.x=q by omega]
  have hG:impG N n r=r.F.take (impC n r.x*2)++aW (impR N n r).ps:=rfl
  have hrs:=rJ (N:=N) (T:=(aK N.ts).1) (os:=N.os) (x:=bA r.x) (r0:=⟨ordS N r.F (impC n r.x),bA r.x,[]⟩) hD r1 (by omega) (by omega) rfl rfl
  rw[← hR]at hrs
  have hps:=jK N.os ⟨ordS N r.F (impC n r.x),bA r.x,[]⟩ q
  rw[← hR,zn,Nat.zero_add]at hps
  have hfl:=fr (impR N n r).ps
  rw[hps]at hfl
  have hcz:=xZ (N:=N) v2 (Nat.le_of_lt hc)
  have hcl:=hcz.l
  have hpre:∀ j,j<impC n r.x→List.take 2 (List.drop (j*2) (List.take (impC n r.x*2) r.F))=[(stA r.F j:Int),(stB r.F j:Int)]:=fun j hj=>by
   have hs:=cl v1 (show j<n by omega)
   rw[List.drop_take,List.take_take,Nat.min_eq_left (by omega),iX v2 (show j<n by omega),hs.a,hs.b]
  have hrl:=v2.l
  have hc1:iv (r.F.take (impC n r.x*2))++iv (aW (impR N n r).ps)=iv (impG N n r):=by rw[hG];simp [iv]
  have hgl:=g2.l
  have hx1:=congrArg Imp.F hnx
  have hx2:=congrArg Imp.x hnx
  simp only at hx1 hx2
  have hoc:=eV hz g2
  have hoc2:=eV hz v2
  rw[hxn]at hrs
  generalize (impR N n r).seed=sd at*
  generalize (impR N n r).s=S2 at*
  generalize aW (impR N n r).ps=P2 at*
  generalize impG N n r=G at*
  generalize impC n r.x=c at*
  have hcs:=ic hcz
  simp(disch:=omega) only[go_sem,seval,reduceCtorEq,d1]
  (refine zC (oN r.x) ?_)
  simp(disch:=omega) only[go_sem,seval,reduceCtorEq,hxn,t1,t2]
  refine⟨t3, ?_⟩
  (refine aZ (dr hz hN.ok) ?_ ?_ ?_;(focus (simp only[go_sem,seval,reduceCtorEq,osR,lvS];done));(first | rfl | (focus (simp only[go_sem];done))))
  simp only[go_sem,seval,reduceCtorEq,osR,lvS]
  refine⟨by omega, ?_⟩
  simp only[Int.sub_zero,Int.toNat_natCast]
  generalize hT:(aK N.ts).1=T at*
  refine aH (c) (mkB 83 4575657221408456704) (fun j=>[(54,.d (.int j))]) (fun j=>[(1,osB T (.d (ints N.os)) (.d (lvS (ordS N r.F j))) (.d (.int (ordS N r.F j).all.length)))]) (h1:=by first | (simp only[go_sem,seval,reduceCtorEq,nz,na,n1,hz0,lvS];first | done | rfl) | rfl) (h2:=by first | (simp only[go_sem,seval,reduceCtorEq,nz,na,n1,hz0,lvS];first | done | rfl) | rfl) (hr:=fun j hj=> ?_)
  unfold L0_impl_ImproveOrder
  by_cases hltj:j<c
  ·have d2:(j:Int)<c:=by omega
   have hs:=cl v1 (show j<n by omega)
   have ho:=(cQ v1 j (by omega)).ok
   have g:=hpre j hltj
   have hf:=hs.fol
   have hsx:=hs.nx
   rw[hs.a,hs.b]at hf
   have hfo:=cH (D:=T) (os:=N.os) hD ho (by omega) (by omega) hf
   simp only[Int.toNat_natCast]at hfo
   rw[← hsx]at hfo
   simp(disch:=omega) only[go_sem,seval,reduceCtorEq,d2,g,lL]
   refine⟨by omega, ?_⟩
   (refine ai [1] [] false (zd rfl) ?_ _ ?_ (hfo) ?_ ?_;(focus (simp only[go_sem,seval,reduceCtorEq,osR];done));(focus (simp only[go_sem,seval,reduceCtorEq,osR];done));(focus (first | rfl | (simp only[go_sem,seval,reduceCtorEq,osR];done))))
   simp(disch:=omega) only[go_sem,seval,reduceCtorEq,osR,lvS]
   (refine Next.drop (mkB 83 4575657221408456704) (by omega) (h1:= ?_) (h2:= ?_)<;>first | (simp only[go_sem,seval,reduceCtorEq,nz,na,n1,lvS];first | done | rfl) | rfl | skip)
  ·have d2:¬ (j:Int)<c:=by omega
   obtain rfl:j=c:=by omega
   simp(disch:=omega) only[go_sem,seval,reduceCtorEq,d2]
   have hle:q*2≤P2.length:=by omega
   have htq:List.take (q*2) P2=P2:=zt (by omega)
   have hlen:j+q=n:=hq
   (refine ai [1] [] false (zd rfl) ?_ _ ?_ (hrs) ?_ ?_;(focus (simp only[go_sem,seval,reduceCtorEq,osR,lvS];done));(focus (simp only[go_sem,seval,reduceCtorEq,osR,lvS];done));(focus (first | rfl | (simp only[go_sem,seval,reduceCtorEq,osR,lvS];done))))
   simp(disch:=omega) only[go_sem,seval,reduceCtorEq,osR]
   refine⟨by omega, ?_⟩
   simp only[Int.sub_zero,Int.toNat_natCast]
   (refine zC (hcs) ?_)
   simp(disch:=omega) only[go_sem,seval,reduceCtorEq,hle,htq,if_true,hc1]
   have hGt:=u5 g2
   refine⟨by omega,by omega, ?_⟩
   (refine bZ (hoc) ?_ ?_ ?_;(focus (simp only[go_sem,seval,reduceCtorEq,hlen,hGt];done));(first | rfl | (focus (simp only[go_sem];done))))
   simp only[go_sem,seval,reduceCtorEq]
   (refine zC (hoc2) ?_)
   by_cases hlt2:bg N n G<bg N n r.F
   ·rw[if_pos hlt2]at hx1
    simp(disch:=omega) only[go_sem,seval,reduceCtorEq,hlt2,hlen]
    (refine Next.wk (Wk.freeze 3 (nb rfl) rfl (bI) rfl rfl) ?_);(simp only[go_sem,seval,reduceCtorEq,hlen,hGt])
    (refine Next.drop (mkB 83 4835703278458447979589632) (by omega) (h1:= ?_) (h2:= ?_)<;>first | (simp only[go_sem,seval,reduceCtorEq,nz,na,n1,hx1,hx2];first | done | rfl) | rfl | skip)
   ·rw[if_neg hlt2]at hx1
    simp(disch:=omega) only[go_sem,seval,reduceCtorEq,hlt2]
    (refine Next.drop (mkB 83 4835703278458447979589632) (by omega) (h1:= ?_) (h2:= ?_)<;>first | (simp only[go_sem,seval,reduceCtorEq,nz,na,n1,hx1,hx2];first | done | rfl) | rfl | skip)
 ·obtain rfl:k=8:=by omega
  have d1:¬ ((8:Nat):Int)<8:=by omega
  simp(disch:=omega) only[go_sem,seval,reduceCtorEq,d1]
  (refine zE ?_ ?_<;>try simp only[go_sem,seval,reduceCtorEq])
end Go.Proofs.YtneocijmbnhblaaGreat
