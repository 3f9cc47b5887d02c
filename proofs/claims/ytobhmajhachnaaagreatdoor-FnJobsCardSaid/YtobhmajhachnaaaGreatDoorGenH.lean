/-
 Contracts: orders drawn. No condition.
-/
import Derived.Test.YtobhmajhachnaaaGreatDoorGenG
import Derived.Test.YtobhmajhachnaaaGreatDoorLiftH
import Derived.Test.YtobhmajhachnaaaGreatDoorStp
import Derived.Test.YtobhmajhachnaaaGreatDoorNetB
set_option linter.unusedSimpArgs false
set_option linter.unusedVariables false
namespace Go.Proofs.YtobhmajhachnaaaGreatDoor
open Go.RowKit Go.Lift Plain
set_option maxRecDepth 100000
def gOrd(b:List Int)(m:Nat)(c:Cur):Nat→Cur × List Int × List Int
 |0=>(c,natI (List.range m),[])
 |j+1=>
  let S:=bf b (gOrd b m c j).1 (gOrd b m c j).2.1 (m-j)
  (S.1,S.2.take (m-j-2)++[((m+j:Nat):Int)],(gOrd b m c j).2.2++[min (S.2.getD (m-j-2) 0) (S.2.getD (m-j-1) 0),max (S.2.getD (m-j-2) 0) (S.2.getD (m-j-1) 0)])
theorem EC{b:List Int}{m:Nat}{c:Cur}(h:c.i≤b.length):∀j,(gOrd b m c j).1.i≤b.length
 |0=>h
 |j+1=>oQ (EC h j) _ _
theorem te{b:List Int}{m:Nat}{c:Cur}:∀j,j≤m-1→(gOrd b m c j).2.1.length=m-j∧(gOrd b m c j).2.2.length=j*2
 |0,_=>by simp [gOrd,natI]
 |j+1,h=>by
  obtain⟨h1,h2⟩:=te (b:=b) (m:=m) (c:=c) j (by omega);have h3:=eX b (gOrd b m c j).1 (gOrd b m c j).2.1 (m-j);simp only[gOrd,List.length_append,List.length_take,h3,h1,h2,Zl,zn];omega
theorem Cy{b:List Int}{m:Nat}{c:Cur}{j:Nat}:∀d,∃l,(gOrd b m c (j+d)).2.2=(gOrd b m c j).2.2++l
 |0=>⟨[],by simp⟩
 |d+1=>by
  obtain⟨l,hl⟩:=Cy (b:=b) (m:=m) (c:=c) (j:=j) d;rw[← Nat.add_assoc];simp only[gOrd];rw[hl,List.append_assoc];exact⟨_,rfl⟩
theorem Ik{A l:List Int}{x y:Int}{q:Nat}(hq:A.length=q):(A++[x,y]++l).getD q 0=x∧(A++[x,y]++l).getD (q+1) 0=y:=by
 subst hq;rw[List.append_assoc]
 constructor
 ·rw[zq,List.getElem?_append_right (Nat.le_refl _),Nat.sub_self]
  rfl
 ·rw[zq,List.getElem?_append_right (by omega),Nat.add_sub_cancel_left]
  rfl
theorem I2{nums:List Nat}(hn:nums.Nodup){S:List Int}(hp:S.Perm (natI nums)){q:Nat}(hq:S.length=q+2):
  ∃a b:Nat,min (S.getD q 0) (S.getD (q+1) 0)=a∧max (S.getD q 0) (S.getD (q+1) 0)=b∧a∈nums∧b∈nums∧a<b∧(S.take q).Perm (natI (nums.filter (Osd.off a b))):=by
 have hnd:S.Nodup:=hp.nodup_iff.2 (rl hn);have h1:q<S.length:=by omega
 have h2:q+1<S.length:=by omega
 rw[ac h1,ac h2];have hS:S=S.take q++[S[q],S[q+1]]:=by
  have e1:S.take (q+2)=S.take q++[S[q]]++[S[q+1]]:=by rw[ba h2,ba h1]
  rw[zt (by omega)]at e1;rw[List.append_assoc]at e1;exact e1
 obtain⟨x,hx,ex⟩:=lZ.1 (hp.mem_iff.1 (List.getElem_mem h1));obtain⟨y,hy,ey⟩:=lZ.1 (hp.mem_iff.1 (List.getElem_mem h2));have hxy:x≠y:=fun e=>by
  have:S[q]=S[q+1]:=by rw[ex,ey,e]
  have:=C5 hnd h1 h2 this;omega
 rw[ex,ey]at hS ⊢;have hnt:(x:Int)∉S.take q∧(y:Int)∉S.take q:=by
  rw[hS]at hnd;have:=List.nodup_append.1 hnd;exact⟨fun h=>this.2.2 _ h (x:Int) (by simp) rfl,fun h=>this.2.2 _ h (y:Int) (by simp) rfl⟩
 have key:(S.take q).Perm (natI (nums.filter (Osd.off x y))):=by
  have hf:=hp.filter (fun z:Int=>z !=x&&z !=y);have e1:S.filter (fun z:Int=>z !=x&&z !=y)=S.take q:=by
   rw[hS,List.filter_append];have e2:[(x:Int),(y:Int)].filter (fun z:Int=>z !=x&&z !=y)=[]:=by simp
   rw[e2,List.append_nil];have e3:(S.take q++[(x:Int),(y:Int)]).take q=S.take q:=by rw[← hS]
   rw[e3];refine List.filter_eq_self.2 fun z hz=> ?_
   have a1:z≠x:=fun e=>hnt.1 (e ▸ hz)
   have a2:z≠y:=fun e=>hnt.2 (e ▸ hz)
   simp [a1,a2]
  have e4:(natI nums).filter (fun z:Int=>z !=x&&z !=y)=natI (nums.filter (Osd.off x y)):=by
   unfold natI;rw[List.filter_map]
   congr 1
   refine List.filter_congr fun i _=> ?_
   have e5:∀u:Nat,((i:Int) !=(u:Int))=(i !=u):=fun u=>by
    rw[Bool.eq_iff_iff];simp only[bne_iff_ne,ne_eq];omega
   simp only[Function.comp_apply,Osd.off,e5]
  rw[e1,e4]at hf;exact hf
 rcases Nat.lt_or_ge x y with h|h
 ·exact⟨x,y,by omega,by omega,hx,hy,h,key⟩
 ·refine⟨y,x,by omega,by omega,hy,hx,by omega, ?_⟩
  have:Osd.off y x=Osd.off x y:=by
   funext i
   unfold Osd.off;rw[Bool.and_comm]
  rw[this];exact key
theorem Cz{b:List Int}{m:Nat}{c:Cur}{os:List Int}{s:Osd}(hs:OsOk s m)(hall:s.nums=List.range m){F:List Int}(hF:F=(gOrd b m c (m-1)).2.2):
  ∀j,j≤m-1→(bj os F s j).2=true∧(gOrd b m c j).2.1.Perm (natI (bj os F s j).1.nums)
 |0,_=>⟨rfl,by rw[show (bj os F s 0).1=s from rfl,hall];exact List.Perm.refl _⟩
 |j+1,hj=>by
  obtain⟨h1,h2⟩:=Cz (os:=os) hs hall hF j (by omega);obtain⟨l1,l2⟩:=te (b:=b) (m:=m) (c:=c) j (by omega);have hok:=oA hs j h1;have hp:=jk (b:=b) (gOrd b m c j).1 (gOrd b m c j).2.1 (m-j) (by omega);have hl:=eX b (gOrd b m c j).1 (gOrd b m c j).2.1 (m-j);have hg:(gOrd b m c (j+1)).2.1=(bf b (gOrd b m c j).1 (gOrd b m c j).2.1 (m-j)).2.take (m-j-2)++[((m+j:Nat):Int)]:=rfl
  have hg2:(gOrd b m c (j+1)).2.2=(gOrd b m c j).2.2++[min ((bf b (gOrd b m c j).1 (gOrd b m c j).2.1 (m-j)).2.getD (m-j-2) 0) ((bf b (gOrd b m c j).1 (gOrd b m c j).2.1 (m-j)).2.getD (m-j-1) 0),max ((bf b (gOrd b m c j).1 (gOrd b m c j).2.1 (m-j)).2.getD (m-j-2) 0) ((bf b (gOrd b m c j).1 (gOrd b m c j).2.1 (m-j)).2.getD (m-j-1) 0)]:=rfl;obtain⟨l,hl3⟩:=Cy (b:=b) (m:=m) (c:=c) (j:=j+1) (m-1-(j+1));rw[show j+1+(m-1-(j+1))=m-1 by omega, ← hF]at hl3;rw[hg];rw[hg2]at hl3;generalize (bf b (gOrd b m c j).1 (gOrd b m c j).2.1 (m-j)).2=S at hp hl hl3;have hq:S.length=(m-j-2)+2:=by omega
  obtain⟨x,y,e1,e2,e3,e4,e5,e6⟩:=I2 (dL _) (hp.trans h2) hq;rw[show m-j-2+1=m-j-1 by omega]at e1 e2;rw[e1,e2]at hl3;obtain⟨g1,g2⟩:=Ik (A:=(gOrd b m c j).2.2) (l:=l) (x:=x) (y:=y) l2;rw[← hl3]at g1 g2;have hfol:dj (bj os F s j).1 (F.getD (j*2) 0) (F.getD (j*2+1) 0)=true:=by
   rw[g1,g2];exact decide_eq_true ⟨lZ.2 ⟨x,e3,rfl⟩,lZ.2 ⟨y,e4,rfl⟩,by omega⟩
  have hst:=q9 h1 hfol;rw[hst];refine⟨rfl, ?_⟩;rw[g1,g2];simp only[Int.toNat_natCast];rw[fU hok];have:natI ((bj os F s j).1.nums.filter (Osd.off x y)++[m+j])=natI ((bj os F s j).1.nums.filter (Osd.off x y))++[((m+j:Nat):Int)]:=by simp [natI]
  rw[this];exact e6.append (List.Perm.refl _)
theorem kz(ts:List Ten):(bb ts).nums=List.range ts.length:=by
 unfold Osd.nums bb;simp only[List.length_map];refine List.filter_eq_self.2 fun i hi=> ?_
 have:i<ts.length:=by simpa using hi
 simp [Osd.alive,this]
theorem DC{N:Net}(h:netOk N=true)(b:List Int)(c:Cur):bo N (N.ts.length-1) (gOrd b N.ts.length c (N.ts.length-1)).2.2=true:=
 bc.2 ⟨h,rfl,(Cz (lV (bq h)) (kz _) rfl _ (Nat.le_refl _)).1⟩
theorem Fs(k:Nat):natI (List.range (k+1))=natI (List.range k)++[(k:Int)]:=by simp [natI,List.range_succ]
theorem Ft(l:List Nat)(k:Nat):natI (l++[k])=natI l++[(k:Int)]:=by simp [natI]
set_option maxHeartbeats 1600000 in
theorem Dq{b:List Int}(hb:CodeOk b){c:Cur}(hi:c.i≤b.length){m:Nat}(hm:m≤1000):
  Does Tryz.prog 23 [.ptr 0 0,.d (.int m)] [curS b c] (.own 1 0 (m-1)) [curS b (gOrd b m c (m-1)).1,some ⟨2,true,iv (gOrd b m c (m-1)).2.2⟩]:=by
 generalize hO:gOrd b m c (m-1)=O;obtain⟨cO,tO,sO⟩:=O;simp only;refine zS Tryz.func23 vB ?_;unfold nQ;unfold curS curR curC;refine zT ?_;have e0:natI (List.range 0)=[]:=rfl;refine aA (m) (mkB 64 523776) (fun k=>[(5,.own 1 0 k),(6,.d (.int k))]) (fun k=>[(1,iv (natI (List.range k)))]) (h1:=by first|(simp only[go_sem,seval,reduceCtorEq,nz,na,n1,e0,br];first|done|rfl)|rfl) (h2:=by first|(simp only[go_sem,seval,reduceCtorEq,nz,na,n1,e0,br];first|done|rfl)|rfl) (hr:=fun k hk=> ?_);unfold mh;by_cases hlt:k<m
 ·have d1:(k:Int)<m:=by omega
  have hnl:(natI (List.range k)).length=k:=by simp [natI]
  simp(disch:=omega) only[go_sem,seval,reduceCtorEq,d1,hnl]
  (repeat (refine And.intro (by omega) ?_))
  (refine Next.drop (mkB 64 523776) (by omega) (h1:= ?_) (h2:= ?_)<;>first|(simp only[go_sem,seval,reduceCtorEq,nz,na,n1,Fs,Ft];first|done|rfl)|rfl|skip)
 ·have d1:¬(k:Int)<m:=by omega
  obtain rfl:m=k:=by omega
  simp(disch:=omega) only[go_sem,seval,reduceCtorEq,d1];have f0:gOrd b m c 0=(c,natI (List.range m),[]):=rfl;refine aA (m-1) (mkB 64 9223372036854251776) (fun k=>[(5,.own 1 0 (m-k)),(7,.own 2 0 k)]) (fun k=>[(0,curC b (gOrd b m c k).1.i (gOrd b m c k).1.h),(1,iv (gOrd b m c k).2.1),(2,iv (gOrd b m c k).2.2)]) (h1:=by first|(simp only[go_sem,seval,reduceCtorEq,nz,na,n1,f0,br,curC,Nat.sub_zero];first|done|rfl)|rfl) (h2:=by first|(simp only[go_sem,seval,reduceCtorEq,nz,na,n1,f0,br,curC,Nat.sub_zero];first|done|rfl)|rfl) (hr:=fun k hk=> ?_);unfold mi;by_cases hlt:k<m-1
  ·have d1:((m-k:Nat):Int)>1:=by omega
   have hs:gOrd b m c (k+1)=((bf b (gOrd b m c k).1 (gOrd b m c k).2.1 (m-k)).1,(bf b (gOrd b m c k).1 (gOrd b m c k).2.1 (m-k)).2.take (m-k-2)++[((m+k:Nat):Int)],(gOrd b m c k).2.2++[min ((bf b (gOrd b m c k).1 (gOrd b m c k).2.1 (m-k)).2.getD (m-k-2) 0) ((bf b (gOrd b m c k).1 (gOrd b m c k).2.1 (m-k)).2.getD (m-k-1) 0),max ((bf b (gOrd b m c k).1 (gOrd b m c k).2.1 (m-k)).2.getD (m-k-2) 0) ((bf b (gOrd b m c k).1 (gOrd b m c k).2.1 (m-k)).2.getD (m-k-1) 0)]):=rfl;have hl:=te (b:=b) (m:=m) (c:=c) k (by omega);have hck:=EC (m:=m) hi k;generalize gOrd b m c k=S at hs hl hck;obtain⟨c1,L,F⟩:=S
   simp only at hl hck hs;obtain⟨hl,hlF⟩:=hl;have hd:=sE hb hck (xs:=L) (by omega);have hsl:=eX b c1 L L.length;rw[hl]at hd hsl;generalize bf b c1 L (m-k)=U at hd hs hsl;obtain⟨c2,M⟩:=U;simp only at hd hs hsl;obtain⟨q,hq⟩:∃q,m-k=q+2:=⟨m-k-2,by omega⟩;rw[hq]at hd hs hsl hl d1 ⊢;have q0:q<M.length:=by omega
   have q1:q+1<M.length:=by omega
   rw[show q+2-2=q by omega,show q+2-1=q+1 by omega,ac q0,ac q1]at hs;have g0:M[q]? =some M[q]:=zg q0;have g1:M[q+1]? =some M[q+1]:=zg q1;unfold curS curR curC at hd;simp(disch:=omega) only[go_sem,seval,reduceCtorEq,d1,curC];(refine am [0,1] [] false (zd rfl) ?_ _ ?_ (hd) ?_ ?_;(focus (simp only[go_sem,seval,reduceCtorEq];done));(focus (simp only[go_sem,seval,reduceCtorEq];done));(focus (first|rfl|(simp only[go_sem,seval,reduceCtorEq];done))));have a1:((q+2:Nat):Int)-2=(q:Int):=by omega
   have a2:(q:Int)+1=((q+1:Nat):Int):=by omega
   simp(disch:=omega) only[go_sem,seval,reduceCtorEq,a1,a2,g0,g1,Option.map_some];refine⟨by omega,by omega,by omega,by omega,by omega,by omega, ?_⟩;refine GH.mk (Wk.shrink 3 q (xs:=M) rfl) ?_;have htq:(M.take q).length=q:=by rw[List.length_take];omega
   have a3:(q:Int)≤((q+2:Nat):Int):=by omega
   have a4:(m:Int)+((k+1:Nat):Int)-1=((m+k:Nat):Int):=by omega
   have a5:m-(k+1)=q+1:=by omega
   simp(disch:=omega) only[go_sem,seval,reduceCtorEq,htq,a3,a4,true_or,if_true,Int.sub_zero,Int.toNat_natCast];refine And.intro (by omega) ?_;have e1:(gOrd b m c (k+1)).1=c2:=by rw[hs]
   have e2:(gOrd b m c (k+1)).2.1=M.take q++[((m+k:Nat):Int)]:=by rw[hs]
   have e3:(gOrd b m c (k+1)).2.2=F++[min M[q] M[q+1],max M[q] M[q+1]]:=by rw[hs]
   (refine Next.ren (mkB 64 9223372036854251776) [3,2] 1 (by omega) (nb rfl) (nb rfl) (zd rfl) (zd rfl) ?_ ?_<;>first|(simp only[go_sem,seval,reduceCtorEq,nz,na,n1,e1,e2,e3,a5,Ic,curC];first|done|rfl)|rfl|skip)
  ·have d1:¬((m-k:Nat):Int)>1:=by omega
   obtain rfl:k=m-1:=by omega
   simp(disch:=omega) only[go_sem,seval,reduceCtorEq,d1,hO,curC];exact zX
end Go.Proofs.YtobhmajhachnaaaGreatDoor
namespace Go.Lift
theorem J9:at_ [none,none]=at_ []:=by
 funext k
 rcases k with _|_|k<;>simp [at_]
theorem Does.noneS2{P:Program}{f:FuncId}{args:List AV}{res:AV}(h:Does P f args [] res [none,none]):Does P f args [] res []:=by
 unfold Does at*;rw[J9]at h;exact h
end Go.Lift
namespace Go.Proofs.YtobhmajhachnaaaGreatDoor
open Go.RowKit Go.Lift Plain
set_option maxRecDepth 100000
theorem Ls{N:Net}{g g':Bool}{c:List AV}(hc:cB c=some (tcs N.ts)):Wk 0 [ownN 0 N] [some ⟨3,g,c⟩,some ⟨1,g',iv N.os⟩] [netA N] [none,none]:=by
 have h3:=wx (ts:=N.ts);have h1:(dv N.os).take (N.os.length*1)=dv N.os:=zt (by rw[cM];omega);have hm:∀f:AV→AV,(∀x,f (.d x)=.d x)→mapL f (iv N.os)=iv N.os:=fun f hf=>by
  rw[dh];unfold iv;rw[List.map_map];exact List.map_congr_left fun x _=>by simp [mapA,hf]
 refine Wk.trans (Wk.freeze 0 (R:=⟨3,g,c⟩) (ls:=tcs N.ts) (e':=[.agg [.d (.int N.k),.d (.int N.p),.d (.int N.n),.d (tens N.ts),.own 1 0 N.os.length]]) (σ':=[none,some ⟨1,g',iv N.os⟩]) (Nat.le_refl _) rfl hc ?_ ?_)
  (Wk.freeze 1 (R:=⟨1,g',iv N.os⟩) (ls:=dv N.os) (Nat.zero_le _) rfl bn ?_ ?_)
 ·simp only[mapL,mapA,ownN,fzG,if_true,List.drop_zero,h3,tens,Nat.zero_add,Nat.reduceEqDiff,if_false,Nat.one_ne_zero]
 ·simp only[frz,List.set_cons_zero,List.map_cons,List.map_nil,Option.map_none,Option.map_some]
  rw[hm _ fun x=>rfl]
 ·simp only[mapL,mapA,netA,fzG,if_true,List.drop_zero,h1,ints,tens]
 ·simp only[frz,List.set_cons_succ,List.set_cons_zero,List.map_cons,List.map_nil,Option.map_none]
theorem Does.fzN{P:Program}{f:FuncId}{args:List AV}{N:Net}{g g':Bool}{c:List AV}(h:Does P f args [] (ownN 0 N) [some ⟨3,g,c⟩,some ⟨1,g',iv N.os⟩])(hc:cB c=some (tcs N.ts):=by exact nh):Does P f args [] (netA N) []:=
 Does.noneS2 (Does.wk0 h (Ls hc))
theorem Jq{N:Net}{g g':Bool}{x:D}{c:List AV}(hc:cB c=some (tcs N.ts)):Wk 0 [.tup [ownN 0 N,.d x]] [some ⟨3,g,c⟩,some ⟨1,g',iv N.os⟩] [.tup [netA N,.d x]] [none,none]:=by
 have h3:=wx (ts:=N.ts);have h1:(dv N.os).take (N.os.length*1)=dv N.os:=zt (by rw[cM];omega);have hm:∀f:AV→AV,(∀x,f (.d x)=.d x)→mapL f (iv N.os)=iv N.os:=fun f hf=>by
  rw[dh];unfold iv;rw[List.map_map];exact List.map_congr_left fun x _=>by simp [mapA,hf]
 refine Wk.trans (Wk.freeze 0 (R:=⟨3,g,c⟩) (ls:=tcs N.ts) (e':=[.tup [.agg [.d (.int N.k),.d (.int N.p),.d (.int N.n),.d (tens N.ts),.own 1 0 N.os.length],.d x]]) (σ':=[none,some ⟨1,g',iv N.os⟩]) (Nat.le_refl _) rfl hc ?_ ?_)
  (Wk.freeze 1 (R:=⟨1,g',iv N.os⟩) (ls:=dv N.os) (Nat.zero_le _) rfl bn ?_ ?_)
 ·simp only[mapL,mapA,ownN,fzG,if_true,List.drop_zero,h3,tens,Nat.zero_add,Nat.reduceEqDiff,if_false,Nat.one_ne_zero]
 ·simp only[frz,List.set_cons_zero,List.map_cons,List.map_nil,Option.map_none,Option.map_some]
  rw[hm _ fun x=>rfl]
 ·simp only[mapL,mapA,netA,fzG,if_true,List.drop_zero,h1,ints,tens]
 ·simp only[frz,List.set_cons_succ,List.set_cons_zero,List.map_cons,List.map_nil,Option.map_none]
theorem Does.fzNB{P:Program}{f:FuncId}{args:List AV}{N:Net}{g g':Bool}{x:D}{c:List AV}(h:Does P f args [] (.tup [ownN 0 N,.d x]) [some ⟨3,g,c⟩,some ⟨1,g',iv N.os⟩])(hc:cB c=some (tcs N.ts):=by exact nh):Does P f args [] (.tup [netA N,.d x]) []:=
 Does.noneS2 (Does.wk0 h (Jq hc))
theorem Does.fzS{P:Program}{f:FuncId}{args:List AV}{g:Bool}{n:Nat}{F:List Int}(h:Does P f args [] (.own 0 0 n) [some ⟨2,g,iv F⟩])(hl:F.length=n*2):Does P f args [] (.d (stp n F)) []:=Does.fz h bn (by rw[cM,hl])
theorem MakeNetwork_d{b:List Int}(hb:CodeOk b){m:Nat}(hm:m≤1000){kk pp nn most:Int}(hr:ai ⟨kk,pp,nn⟩=true)(hmo:0≤most∧most≤11):
  ∃N:Net,(Gen6 N∧(N.ts.length:Int)≤most∧N.rg=⟨kk,pp,nn⟩)∧Does Tryz.prog 5 [.d (bytes b),.d (.int m),aY kk pp nn,.d (.int most)] [] (netA N) []:=by
 obtain⟨i,h,hi,hd⟩:=sD hb hm;have hwb:=cm hr;obtain⟨wd,hw⟩:=Int.eq_ofNat_of_zero_le (a:=af ⟨kk,pp,nn⟩) (by omega);obtain⟨g1,g2⟩:=MG (b:=b) (c:=⟨i,h⟩) hr hw hmo;have hx:=I4 hb (c:=⟨i,h⟩) hi hr hw (by omega) hmo;refine⟨_,⟨g1,g2,rfl⟩, ?_⟩;generalize gNet b ⟨kk,pp,nn⟩ wd most ⟨i,h⟩=T at hx;obtain⟨c2,N⟩:=T;simp only at hx ⊢;refine Does.fzN (g:=true) (g':=true) ?_;unfold ownN at hx ⊢;unfold curS curR curC at hx;unfold curR curC at hd;refine zS Tryz.func5 rq ?_;unfold ke;refine zT ?_;(refine zD (hd) ?_);refine zU ?_
 (refine am [2] [] false (zd rfl) ?_ _ ?_ (hx) ?_ ?_;(focus (simp only[go_sem,seval,reduceCtorEq];done));(focus (simp only[go_sem,seval,reduceCtorEq];done));(focus (first|rfl|(simp only[go_sem,seval,reduceCtorEq];done))));refine zV ?_;exact zX
theorem Fm{N:Net}{n:Nat}{F:List Int}(h:bo N n F=true)(hl:F.length=n*2):∀x∈F,I64 x:=by
 obtain⟨h1,h2,h3⟩:=bc.1 h;have hn:=(ae.1 h1).2.1;have hok:=lV (bq h1);intro x hx;obtain⟨j,hj,rfl⟩:=List.getElem_of_mem hx;have hk:j / 2<n:=by omega
 have hf:=lW h3 hk;have ho:=oA hok (j / 2) (fS h3 (Nat.le_of_lt hk));obtain⟨a,b,e1,e2,m1,m2,_⟩:=kJ hf;have b1:=(eC.1 m1).1;have b2:=(eC.1 m2).1;rw[ho.n]at b1 b2;unfold I64;rcases Nat.mod_two_eq_zero_or_one j with e|e
 ·have:F[j]=a:=by rw[← e1,show j / 2*2=j by omega,ac hj]
  omega
 ·have:F[j]=b:=by rw[← e2,show j / 2*2+1=j by omega,ac hj]
  omega
theorem MakeOrder_d{b:List Int}(hb:CodeOk b){m:Nat}(hm:m≤1000){N:Net}(hN:Gen6 N):
  ∃F:List Int,(bo N (N.ts.length-1) F=true∧StpSz 1048576 (N.ts.length-1) F)∧Does Tryz.prog 6 [.d (bytes b),.d (.int m),netA N] [] (.d (stp (N.ts.length-1) F)) []:=by
 obtain⟨i,h,hi,hd⟩:=sD hb hm;have hn:=(ae.1 hN.ok).2.1;have hv:=DC hN.ok b ⟨i,h⟩;have hl:=(te (b:=b) (m:=N.ts.length) (c:=⟨i,h⟩) (N.ts.length-1) (Nat.le_refl _)).2;have hx:=Dq hb (c:=⟨i,h⟩) hi (m:=N.ts.length) (by omega);refine⟨_,⟨hv,hl,by omega, ?_⟩, ?_⟩
 ·exact Fm hv hl
 generalize gOrd b N.ts.length ⟨i,h⟩ (N.ts.length-1)=T at hx hl
 obtain⟨c2,th,F⟩:=T;simp only at hx hl ⊢;refine Does.fzS (g:=true) ?_ hl;unfold curS curR curC at hx;unfold curR curC at hd;refine zS Tryz.func6 uo ?_;unfold mw;refine zT ?_;(refine zD (hd) ?_);refine zU ?_;(refine am [1] [] false (zd rfl) ?_ _ ?_ (hx) ?_ ?_;(focus (simp only[go_sem,seval,reduceCtorEq];done));(focus (simp only[go_sem,seval,reduceCtorEq];done));(focus (first|rfl|(simp only[go_sem,seval,reduceCtorEq];done))));refine zV ?_;exact zX
end Go.Proofs.YtobhmajhachnaaaGreatDoor
