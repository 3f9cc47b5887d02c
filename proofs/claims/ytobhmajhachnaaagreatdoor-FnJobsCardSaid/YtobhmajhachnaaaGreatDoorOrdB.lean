/-
 Contracts: the first state of an order, whether an order is valid, by the program. No condition.
-/
import Derived.Test.YtobhmajhachnaaaGreatDoorOrdL
import Derived.Test.YtobhmajhachnaaaGreatDoorStp
import Derived.Test.YtobhmajhachnaaaGreatDoorArrA
set_option linter.unusedSimpArgs false
set_option linter.unusedVariables false
namespace Go.Proofs.YtobhmajhachnaaaGreatDoor
open Go.RowKit Go.Lift Plain
set_option maxRecDepth 100000
theorem Hu{T:List Int}{x y z:AV}(h:T.length=100):(osB T x y z).drop 100=[x,y,z]:=by
 have h1:(iv T).length=100:=by simp [cZ,h]
 rw[osB,List.drop_left' h1]
theorem Hr(T:List Int)(x y z:AV):iv T++[x,y,z]=osB T x y z:=nr rfl
theorem Ho{T:List Int}{x y z:AV}(h:T.length=100)(u:AV):iv T++[u]++(osB T x y z).drop 101=osB T u y z:=by rw[← BY h u,wS h]
theorem Hn{T:List Int}{x y z:AV}(h:T.length=100)(u:AV):(osB T x y z).set 101 u=osB T x u z:=by
 have h1:(iv T++[x]).length=101:=by simp [cZ,h]
 rw[osB,show iv T++[x,y,z]=(iv T++[x])++[y,z]by simp,List.set_append_right _ _ (by omega),h1];simp [osB]
theorem kz(ts:List Ten):(bb ts).nums=List.range ts.length:=by
 unfold Osd.nums;rw[show (bb ts).all.length=ts.length by simp [bb]];refine List.filter_eq_self.2 fun i hi=> ?_
 have hi:i<ts.length:=by simpa using hi
 simp [Osd.alive,bb,hi]
theorem wR{ts:List Ten}{i:Nat}(h:i<ts.length):(bb ts).lab i=ts[i].labels:=by simp [Osd.lab,bb,h]
theorem s7{N:Net}(h:NSz 1048576 N)(hok:netOk N=true):
  Does Tryz.prog 65 [netA N] [] (.ptr 0 0) [osR (bA N.ts).1 N.os (bb N.ts)]:=by
 have hD:=dz N.ts;have hnl:=h.l;have hax:=bq hok;have htD:List.take 100 (bA N.ts).1=(bA N.ts).1:=zt (by omega);have hal:(bb N.ts).all.length=N.ts.length:=by simp [bb]
 (refine spec_ofK (by kernel_rfl) Tryz.func65 sJ (fnOk (nb rfl) ?_);unfold lg);simp only[osR,lvS];refine zT ?_;(refine zC (jn (ts:=N.ts) h.l h.t hax) ?_);generalize hT:(bA N.ts).1=T at*;have hrl:(repI 100 0).length=100:=dG 100 0;have hdr:List.drop 100 (repI 100 0)=[]:=List.drop_of_length_le (by omega);simp(disch:=omega) only[go_sem,seval,reduceCtorEq,htD,hdr,hrl,Hu,Hr,Ho,hD];refine bC (Wk.nilS 2 101 2 _ _ _ rfl (Em hD)) ?_;simp(disch:=omega) only[go_sem,seval,reduceCtorEq,Hn];have hr0:lvA (bb N.ts).lab (List.range 0)=[]:=rfl
 refine aA (N.ts.length) (mkB 46 35184304980160) (fun k=>[(25,.d (.int k))]) (fun k=>[(2,osB T (.d (ints N.os)) (.own 3 0 k) (.d (.int N.ts.length))),(3,lvA (bb N.ts).lab (List.range k))]) (h1:=by first|(simp only[go_sem,seval,reduceCtorEq,nz,na,n1,hr0];first|done|rfl)|rfl) (h2:=by first|(simp only[go_sem,seval,reduceCtorEq,nz,na,n1,hr0];first|done|rfl)|rfl) (hr:=fun k hk=> ?_);unfold jz;by_cases hlt:k<N.ts.length
 ·have d1:(k:Int)<N.ts.length:=by omega
  have g3:=fj (zg hlt);have hst:=h.t N.ts[k] (List.getElem_mem hlt);simp(disch:=omega) only[go_sem,seval,reduceCtorEq,d1,g3]
  (repeat (refine And.intro (by omega) ?_))
  (refine zD (DV (xs:=N.ts[k].labels) hst.l.up.len) ?_);have hrl:(List.range k).length=k:=List.length_range;have hrow:lvA (bb N.ts).lab (List.range k)++[.d (.int k),.d (.sl N.ts[k].labels.length (dv N.ts[k].labels))]=lvA (bb N.ts).lab (List.range (k+1)):=by
   rw[List.range_succ,Ey];simp only[lvA,List.flatMap_cons,List.flatMap_nil,List.append_nil,wR hlt,ints]
  simp(disch:=omega) only[go_sem,seval,reduceCtorEq,hrl]
  (repeat (refine And.intro (by omega) ?_))
  (refine Next.drop (mkB 46 35184304980160) (by omega) (h1:= ?_) (h2:= ?_)<;>first|(simp only[go_sem,seval,reduceCtorEq,nz,na,n1,hrow];first|done|rfl)|rfl|skip)
 ·have d1:¬(k:Int)<N.ts.length:=by omega
  obtain rfl:k=N.ts.length:=by omega
  have hln:lvS (bb N.ts)=.sl N.ts.length (lvD (bb N.ts).lab (List.range N.ts.length)):=by rw[lvS,kz,List.length_range]
  have htk:List.take (N.ts.length*2) (lvD (bb N.ts).lab (List.range N.ts.length))=lvD (bb N.ts).lab (List.range N.ts.length):=zt (by rw[AC,List.length_range];exact Nat.le_refl _);simp(disch:=omega) only[go_sem,seval,reduceCtorEq,d1];(refine FnEnd.wk (Wk.freeze 3 (nb rfl) rfl (rI) rfl rfl) ?_);(simp only[go_sem,seval,reduceCtorEq,htk]);(refine zE ?_ ?_<;>try simp only[go_sem,seval,reduceCtorEq])
  all_goals simp only[kz,List.length_range,hal]
theorem s5{n k:Nat}{m:Nat}{F:List Int}(h:StpSz m n F)(hk:k<n):(F.drop (k*2)).take 2=[F.getD (k*2) 0,F.getD (k*2+1) 0]:=by
 have hl:=h.l;rw[F4 (by omega),ac (by omega),ac (by omega)]
theorem rC{N:Net}{n:Nat}{F:List Int}(h:NSz 1048576 N)(hF:StpSz 1048576 n F):
  Does Tryz.prog 32 [netA N,.d (stp n F)] [] (.d (.bool (bo N n F))) []:=by
 have hD:=dz N.ts;have hn:=hF.n;have hFl:=hF.l;have hol:=h.o.len;have hnl:=h.l;refine zS Tryz.func32 xw ?_;unfold pW;refine zT ?_;(refine zC (di h) ?_);cases h1:netOk N
 ·have e:bo N n F=false:=by simp only[bo,h1,Bool.false_and]
  simp only[go_sem,seval,reduceCtorEq,h1,e];exact zX
 have h12:=(ae.1 h1).2.1;by_cases h2:n=N.ts.length-1
 rotate_left
 ·have e:bo N n F=false:=by simp only[bo,decide_eq_false h2,Bool.and_false,Bool.false_and]
  have c:((n:Int) !=max ((N.ts.length:Int)-1) 0)=true:=by simp;omega
  simp(disch:=omega) only[go_sem,seval,reduceCtorEq,h1,c,e];exact zX
 have c:((n:Int) !=max ((N.ts.length:Int)-1) 0)=false:=by simp;omega
 simp(disch:=omega) only[go_sem,seval,reduceCtorEq,h1,c];(refine zC (s7 h h1) ?_ (by simp only[go_sem,seval,reduceCtorEq,osR,lvS]));have hs0:=lV (bq h1);simp only[go_sem,seval,reduceCtorEq,osR,lvS];generalize hT:(bA N.ts).1=T at*;have hz1:(bj N.os F (bb N.ts) 0).1=bb N.ts:=rfl
 refine cI (n) (mkB 34 17112760464) (fun k=>(bj N.os F (bb N.ts) k).2=true) (fun k=>[(25,.d (.int k))]) (fun k=>[(1,osB T (.d (ints N.os)) (.d (lvS (bj N.os F (bb N.ts) k).1)) (.d (.int (bj N.os F (bb N.ts) k).1.all.length)))]) (hi:=rfl) (h1:=by first|(simp only[go_sem,seval,reduceCtorEq,nz,na,n1,hz1,lvS];first|done|rfl)|rfl) (h2:=by first|(simp only[go_sem,seval,reduceCtorEq,nz,na,n1,hz1,lvS];first|done|rfl)|rfl) (hr:=fun k hk hi=> ?_);unfold nO;by_cases hlt:k<n
 ·have d1:(k:Int)<n:=by omega
  have g:=s5 hF hlt;have hok:=oA hs0 k hi;simp(disch:=omega) only[go_sem,seval,reduceCtorEq,d1,g,DJ];refine⟨by omega, ?_⟩;cases hf:dj (bj N.os F (bb N.ts) k).1 (F.getD (k*2) 0) (F.getD (k*2+1) 0)
  ·have e:bo N n F=false:=by
    cases e:bo N n F
    ·rfl
    ·have:=lW (bc.1 e).2.2 hlt
     rw[hf]at this;cases this
   (refine am [1] [] false (zd rfl) ?_ _ ?_ (oz (D:=T) (os:=N.os) hD hok (by omega) (by omega) hf) ?_ ?_;(focus (simp only[go_sem,seval,reduceCtorEq,osR];done));(focus (simp only[go_sem,seval,reduceCtorEq,osR];done));(focus (first|rfl|(simp only[go_sem,seval,reduceCtorEq,osR];done))));simp only[go_sem,seval,reduceCtorEq,e];exact zX
  ·have hy:=q9 hi hf
   (refine am [1] [] false (zd rfl) ?_ _ ?_ (o8 (D:=T) (os:=N.os) hD hok (by omega) (by omega) hf) ?_ ?_;(focus (simp only[go_sem,seval,reduceCtorEq,osR];done));(focus (simp only[go_sem,seval,reduceCtorEq,osR];done));(focus (first|rfl|(simp only[go_sem,seval,reduceCtorEq,osR];done))));have hy1:=congrArg Prod.fst hy;simp only at hy1;simp(disch:=omega) only[go_sem,seval,reduceCtorEq,osR];(refine NextI.drop (mkB 34 17112760464) (by omega) (by rw[hy]) (h1:= ?_) (h2:= ?_)<;>first|(simp only[go_sem,seval,reduceCtorEq,nz,na,n1,hy1,lvS];first|done|rfl)|rfl|skip)
 ·have d1:¬(k:Int)<n:=by omega
  obtain rfl:k=n:=by omega
  have e:bo N k F=true:=bc.2 ⟨h1,h2,hi⟩;simp(disch:=omega) only[go_sem,seval,reduceCtorEq,d1,e];exact zX
set_option maxRecDepth 100000
def OsT(T:List Int)(s:Osd):Prop:=∀i,∀x∈s.lab i,1≤atT T x∧atT T x≤8
section
variable {T os : List Int} {s : Osd} {m a b : Nat}
theorem OsT.res(h:OsT T s):∀x∈s.res os a b,1≤atT T x∧atT T x≤8:=fun x hx=>
 (bm.1 (List.mem_filter.1 hx).1).elim (h a x) (h b x)
theorem OsT.step(hs:OsOk s m)(h:OsT T s):OsT T (s.step os a b):=fun i x hx=>by
 rcases Nat.lt_trichotomy i m with hi|rfl|hi
 ·rw[sC hs hi]at hx;exact h i x hx
 ·rw[iz hs]at hx;exact h.res x hx
 ·have:(s.step os a b).lab i=[]:=by
   have:=(hs.step os a b).n;unfold Osd.lab;rw[zq,List.getElem?_eq_none (by omega)];rfl
  rw[this]at hx;cases hx
theorem Hm{N:Net}(h:netOk N=true):OsT (bA N.ts).1 (bb N.ts):=fun i x hx=>by
 by_cases hi:i<N.ts.length
 ·rw[wR hi]at hx
  have hd:=IM h (List.getElem_mem hi);have:atT (bA N.ts).1 x∈N.ts[i].dims:=by rw[← hd];exact List.mem_map_of_mem hx
  have:=(bq h _ (List.getElem_mem hi)).dim _ this;omega
 ·have:(bb N.ts).lab i=[]:=by
   unfold Osd.lab;rw[zq,List.getElem?_eq_none (by simp [bb];omega)];rfl
  rw[this]at hx;cases hx
end
set_option maxRecDepth 100000
set_option maxRecDepth 100000
section
variable {N : Net} {n : Nat} {F : List Int}
def stA(F:List Int)(k:Nat):Nat:=(F.getD (k*2) 0).toNat
def stB(F:List Int)(k:Nat):Nat:=(F.getD (k*2+1) 0).toNat
structure OrdOk(N:Net)(F:List Int)(k:Nat):Prop where
 ok:OsOk (ordS N F k) (N.ts.length+k)
 t:OsT (bA N.ts).1 (ordS N F k)
structure OrdStep(N:Net)(F:List Int)(k:Nat):Prop where
 a:F.getD (k*2) 0=stA F k
 b:F.getD (k*2+1) 0=stB F k
 ma:stA F k∈(ordS N F k).nums
 mb:stB F k∈(ordS N F k).nums
 lt:stA F k<stB F k
 nx:ordS N F (k+1)=(ordS N F k).step N.os (stA F k) (stB F k)
 fol:dj (ordS N F k) (F.getD (k*2) 0) (F.getD (k*2+1) 0)=true
theorem mV(h:bo N n F=true){k:Nat}(hk:k<n):OrdStep N F k:=by
 have h2:=(bc.1 h).2.2;have hf:=lW h2 hk;obtain⟨a,b,e1,e2,ha,hb,hab⟩:=kJ hf;have ea:stA F k=a:=by rw[stA,e1];rfl
 have eb:stB F k=b:=by rw[stB,e2];rfl
 have hy:=congrArg Prod.fst (q9 (fS h2 (Nat.le_of_lt hk)) hf);exact⟨by rw[ea,e1],by rw[eb,e2],by rw[ea];exact ha,by rw[eb];exact hb,by rw[ea,eb];exact hab,hy,hf⟩
theorem qA(h:bo N n F=true):∀k,k≤n→OrdOk N F k
 |0,_=>⟨lV (bq (bc.1 h).1),Hm (bc.1 h).1⟩
 |k+1,hk=>by
  have ih:=qA h k (by omega);have hs:=mV h (show k<n by omega);exact⟨by rw[hs.nx];exact ih.ok.step _ _ _,by rw[hs.nx];exact OsT.step ih.ok ih.t⟩
theorem OrdStep.at{k:Nat}(h:OrdStep N F k)(ho:OrdOk N F k):stA F k<N.ts.length+k∧stB F k<N.ts.length+k:=by
 have hn:=ho.ok.n;have h1:=(eC.1 h.ma).1;have h2:=(eC.1 h.mb).1;omega
end
set_option maxRecDepth 100000
section
variable {N : Net} {n : Nat} {F : List Int}
end
set_option maxRecDepth 100000
set_option maxRecDepth 100000
structure Rnd where
 s:Osd
 seed:Int
 ps:List (Nat × Nat)
structure RndOk(os:List Int)(r:Rnd)(m q:Nat):Prop where
 ok:OsOk r.s m
 n:r.s.nums.length=q
set_option maxRecDepth 100000
def walk(m:Nat)(F:List Int)(k:Nat)(out:List (Nat × Nat)):List (Nat × Nat) × Nat:=
 if h:stA F (k-m)<k∧stB F (k-m)<k∧m≤k then
  ((walk m F (stB F (k-m)) (walk m F (stA F (k-m)) out).1).1++[(min (walk m F (stA F (k-m)) out).2 (walk m F (stB F (k-m)) (walk m F (stA F (k-m)) out).1).2,max (walk m F (stA F (k-m)) out).2 (walk m F (stB F (k-m)) (walk m F (stA F (k-m)) out).1).2)],
   m+(walk m F (stB F (k-m)) (walk m F (stA F (k-m)) out).1).1.length)
 else (out,k)
termination_by k
decreasing_by all_goals omega
section
variable {m n : Nat} {F : List Int}
end
end Go.Proofs.YtobhmajhachnaaaGreatDoor
namespace Go.Proofs.YtobhmajhachnaaaGreatDoor
open Plain
section
variable {m n : Nat} {F G : List Int}
end
end Go.Proofs.YtobhmajhachnaaaGreatDoor
namespace Go.Proofs.YtobhmajhachnaaaGreatDoor
open Go.RowKit Go.Lift Plain
set_option maxRecDepth 100000
structure Grd where
 s:Osd
 ps:List (Nat × Nat)
structure GrdOk(T:List Int)(s:Osd)(m q:Nat):Prop where
 ok:OsOk s m
 n:s.nums.length=q
 t:OsT T s
set_option maxRecDepth 100000
set_option maxRecDepth 100000
end Go.Proofs.YtobhmajhachnaaaGreatDoor
