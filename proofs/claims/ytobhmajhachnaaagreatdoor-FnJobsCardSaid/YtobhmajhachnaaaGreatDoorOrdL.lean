/-
 The state of an order as cells: the table of dimensions, the open labels, the tensors that are there, the next number. No condition.
-/
import Derived.Test.YtobhmajhachnaaaGreatDoorNetB
import Derived.Test.YtobhmajhachnaaaGreatDoorEliA
import Derived.Test.YtobhmajhachnaaaGreatDoorCoD
set_option linter.unusedSimpArgs false
set_option linter.unusedVariables false
namespace Go.Proofs.YtobhmajhachnaaaGreatDoor
open Go.RowKit Go.Lift Plain
def osB(T:List Int)(x y z:AV):List AV:=iv T++[x,y,z]
def osD(T:List Int)(x y z:D):List D:=dv T++[x,y,z]
section
variable {T : List Int} {x y z : AV} {a b c : D}
theorem K9(h:T.length=100):(osB T x y z).length=103:=by simp [osB,cZ,h]
theorem Em(h:T.length=100):(osB T x y z)[101]? =some y:=by simp [osB,cZ,h,List.getElem?_append_right]
theorem Ka(h:T.length=100):(osB T x y z)[102]? =some z:=by simp [osB,cZ,h,List.getElem?_append_right]
theorem wS(h:T.length=100):(osB T x y z).take 100=iv T:=by
 have:(iv T).length=100:=by simp [cZ,cM,h]
 rw[osB,List.take_left' this]
theorem BY(h:T.length=100)(u:AV):(osB T x y z).take 100++[u]++(osB T x y z).drop 101=osB T u y z:=by
 have h1:(iv T).length=100:=by simp [cZ,cM,h]
 have h2:(iv T++[x]).length=101:=by simp [cZ,cM,h]
 rw[wS h,osB,show iv T++[x,y,z]=(iv T++[x])++[y,z]by simp,List.drop_left' h2];simp [osB]
theorem Hq(h:T.length=100)(u:AV):(osB T x y z).take 101++[u]++(osB T x y z).drop 102=osB T x u z:=by
 have h1:(iv T++[x]).length=101:=by simp [cZ,cM,h]
 have h2:(iv T++[x,y]).length=102:=by simp [cZ,cM,h]
 rw[osB,show iv T++[x,y,z]=(iv T++[x])++[y,z]by simp,List.take_left' h1,show iv T++[x]++[y,z]=(iv T++[x,y])++[z]by simp,List.drop_left' h2];simp [osB]
theorem Hp(h:T.length=100)(u:AV):(osB T x y z).take 102++[u]++(osB T x y z).drop 103=osB T x y u:=by
 have h1:(iv T++[x,y]).length=102:=by simp [cZ,cM,h]
 have h2:(iv T++[x,y,z]).length=103:=by simp [cZ,cM,h]
 rw[osB,List.drop_eq_nil_of_le (Nat.le_of_eq h2),show iv T++[x,y,z]=(iv T++[x,y])++[z]by simp,List.take_left' h1];simp [osB]
theorem Ht(h:T.length=100):((osB T x y z).drop 101).take 1=[y]:=by
 have h1:(iv T++[x]).length=101:=by simp [cZ,cM,h]
 rw[osB,show iv T++[x,y,z]=(iv T++[x])++[y,z]by simp,List.drop_left' h1];rfl
theorem Hs(h:T.length=100):((osB T x y z).drop 102).take 1=[z]:=by
 have h1:(iv T++[x,y]).length=102:=by simp [cZ,cM,h]
 rw[osB,show iv T++[x,y,z]=(iv T++[x,y])++[z]by simp,List.drop_left' h1];rfl
theorem JZ(ρ:Nat→Option Nat):rnL ρ (osB T x y z)=osB T (rn ρ x) (rn ρ y) (rn ρ z):=by
 rw[aR,osB,List.map_append, ← aR,lF];rfl
theorem HS(k e:Nat)(ls:List D):mapL (fzG k e ls) (osB T x y z)=osB T (mapA (fzG k e ls) x) (mapA (fzG k e ls) y) (mapA (fzG k e ls) z):=by
 rw[dh,osB,List.map_append, ← dh,x6];rfl
theorem qI(s:St):∀(l m:List AV),d8 s (l++m)=match d8 s l,d8 s m with
  |some a,some b=>some (a++b)
  |_,_=>none
 | [],m=>by
  rw[List.nil_append,d8];cases d8 s m<;>rfl
 |x :: l,m=>by
  rw[List.cons_append];simp only[d8];rw[qI s l m];cases xZ s x<;>cases d8 s l<;>cases d8 s m<;>rfl
theorem Ac(s:St):∀xs:List Int,d8 s (iv xs)=some (dv xs)
 | []=>rfl
 |x :: l=>by
  have:=Ac s l;simp only[iv,dv,List.map_cons,d8,xZ,exp1]at this ⊢;rw[this]
theorem DX(s:St):d8 s (osB T (.d a) (.d b) (.d c))=some (osD T a b c):=by
 rw[osB,qI,Ac];rfl
theorem Mb:(osD T a b c).isEmpty=false:=by
 rw[osD];cases dv T<;>rfl
theorem K8(h:T.length=100):(osD T a b c)[100]? =some a:=by simp [osD,cM,h,List.getElem?_append_right]
theorem K7(h:T.length=100):(osD T a b c)[101]? =some b:=by simp [osD,cM,h,List.getElem?_append_right]
end
attribute [go_sem] K9 Em Ka wS BY Hq Hp Ht Hs JZ HS DX Mb K8 K7
def lvD(f:Nat→List Int)(l:List Nat):List D:=l.flatMap fun (i:Nat)=>[.int (i:Int),ints (f i)]
def lvA(f:Nat→List Int)(l:List Nat):List AV:=l.flatMap fun (i:Nat)=>[.d (.int (i:Int)),.d (ints (f i))]
section
variable {f g : Nat → List Int} {l m : List Nat} {k : Nat}
theorem AC:(lvD f l).length=l.length*2:=by
 induction l with
 |nil=>rfl
 |cons x l ih=>rw[lvD,List.flatMap_cons,List.length_append, ← lvD,ih];simp;omega
theorem Kh:(lvA f l).length=l.length*2:=by
 induction l with
 |nil=>rfl
 |cons x l ih=>rw[lvA,List.flatMap_cons,List.length_append, ← lvA,ih];simp;omega
theorem Ew:lvA f []=[]:=nr rfl
theorem sB:∀{l:List Nat} {k:Nat} (h:k<l.length),(lvD f l).drop (k*2)=.int l[k] :: ints (f l[k]) :: lvD f (l.drop (k+1))
 |x :: l,0,_=>by simp [lvD]
 |x :: l,k+1,h=>by
  have:=sB (l:=l) (k:=k) (by simpa using h);rw[lvD,List.flatMap_cons, ← lvD,show (k+1)*2=2+k*2 by omega, ← List.drop_drop];simpa using this
theorem AD(h:k<l.length):((lvD f l).drop (k*2)).take 2=[.int l[k],ints (f l[k])]:=by rw[sB h];rfl
theorem Ca(h:k<l.length):(lvD f l)[k*2]? =some (.int l[k]):=by
 have:=congrArg (fun x=>x[0]?) (sB (f:=f) h);simpa using this
theorem C9(h:k<l.length):(lvD f l)[k*2+1]? =some (ints (f l[k])):=by
 have:=congrArg (fun x=>x[1]?) (sB (f:=f) h);simpa using this
theorem Ey:lvA f (l++m)=lvA f l++lvA f m:=by simp [lvA]
theorem HY(i:Nat):lvA f l++[.d (.int i),.d (.sl (f i).length (dv (f i)))]=lvA f (l++[i]):=by simp [lvA,ints]
theorem FA(h:∀i∈l,f i=g i):lvA f l=lvA g l:=by
 unfold lvA;exact fy fun x hx=>by rw[h x hx]
theorem AE:lvA f l=(lvD f l).map .d:=by
 induction l with
 |nil=>rfl
 |cons x l ih=>simp only[lvA,lvD,List.flatMap_cons,List.map_append]at ih ⊢;rw[ih];rfl
theorem xY:∀L:List D,cB (L.map .d)=some L
 | []=>rfl
 |x :: l=>by simp only[List.map_cons,cB,tt,xY l]
theorem rI:cB (lvA f l)=some (lvD f l):=by rw[AE,xY]
theorem K0(ρ:Nat→Option Nat):rnL ρ (lvA f l)=lvA f l:=by
 rw[aR,AE,List.map_map];exact List.map_congr_left fun x _=>rfl
theorem HU(k e:Nat)(ls:List D):mapL (fzG k e ls) (lvA f l)=lvA f l:=by
 rw[dh,AE,List.map_map];exact List.map_congr_left fun x _=>rfl
end
theorem HV(g:AV→AV)(l m:List AV):mapL g (l++m)=mapL g l++mapL g m:=by rw[dh,dh,dh,List.map_append]
attribute [go_sem] HV AC Kh K0 HU rI HY
def lvS(s:Osd):D:=.sl s.nums.length (lvD s.lab s.nums)
theorem eJ(q i:Nat):((q:Int) !=(i:Int))=(q !=i):=by rw[Bool.eq_iff_iff,bne_iff_ne,bne_iff_ne];omega
set_option maxRecDepth 100000
def osP(D os:List Int)(s:Osd):AV:=.rptr (osD D (ints os) (lvS s) (.int s.all.length)) 0
def osR(D os:List Int)(s:Osd):Option Root:=some ⟨0,false,osB D (.d (ints os)) (.d (lvS s)) (.d (.int s.all.length))⟩
theorem bT{D os:List Int}{s:Osd}{m:Nat}{x:Int}(hD:D.length=100)(h:OsOk s m)(hm:m≤1000):
  Does Tryz.prog 101 [osP D os s,.d (.int x)] [] (.d (.int (place (natI s.nums) x))) []:=by
 have hnl:=lX h;refine zS Tryz.func101 m6 ?_;unfold fh;simp only[osP,lvS];refine zT ?_;refine zV ?_;refine cI (s.nums.length) (mkB 23 8380528) (fun k=>x∉natI (s.nums.take k)) (fun k=>[(12,.d (.int k))]) (fun k=>[]) (hi:=by simp [natI]) (hr:=fun k hk hi=> ?_);unfold eH;by_cases hlt:k<s.nums.length
 ·have d1:(k:Int)<s.nums.length:=by omega
  have g:=AD (f:=s.lab) hlt;simp(disch:=omega) only[go_sem,seval,reduceCtorEq,d1,g];refine⟨by omega, ?_⟩;by_cases hx:(s.nums[k]:Int)=x
  ·have c:((s.nums[k]:Int)==x)=true:=by simp [hx]
   have hp:place (natI s.nums) x=k:=by
    have hk':k<(natI s.nums).length:=by rw[wZ];exact hlt
    have:=ez hk' (by rw[sv hlt];rw[show List.take k (natI s.nums)=natI (s.nums.take k)by simp [natI]];rw[hx];exact hi)
    rwa [sv hlt,hx]at this
   simp(disch:=omega) only[go_sem,seval,reduceCtorEq,c,hp];exact zX
  ·have c:((s.nums[k]:Int)==x)=false:=by simp [hx]
   simp(disch:=omega) only[go_sem,seval,reduceCtorEq,c];have hi':x∉natI (s.nums.take (k+1)):=by
    rw[ba hlt];simp only[natI,List.map_append,List.map_cons,List.map_nil,List.mem_append,List.mem_singleton];exact fun e=>e.elim hi (fun e=>hx e.symm)
   exact NextI.drop (mkB 23 8380528) (by omega) (hi')
 ·have d1:¬(k:Int)<s.nums.length:=by omega
  have hp:place (natI s.nums) x= -1:=gz (by rw[zt (by omega)]at hi;exact hi);simp(disch:=omega) only[go_sem,seval,reduceCtorEq,d1,hp];exact zX
theorem eh{D os:List Int}{s:Osd}{m i j:Nat}(hD:D.length=100)(h:OsOk s m)(hm:m≤1000)(ho:os.length≤1048576)(hi:i<s.nums.length)(hj:j<s.nums.length):
  Does Tryz.prog 120 [osP D os s,.d (.int i),.d (.int j)] [] (.own 0 0 (s.res os s.nums[i] s.nums[j]).length) [some ⟨1,true,iv (s.res os s.nums[i] s.nums[j])⟩]:=by
 have hnl:=lX h;have li:(i:Int)<s.nums.length:=by omega
 have lj:(j:Int)<s.nums.length:=by omega
 have gi:=C9 (f:=s.lab) hi;have gj:=C9 (f:=s.lab) hj;have la:=h.len s.nums[i];have lb:=h.len s.nums[j];obtain⟨hjn,hjb,hjl⟩:=h.join s.nums[i] s.nums[j];refine zS Tryz.func120 fX ?_;unfold dc;simp only[osP,lvS];refine zT ?_;simp(disch:=omega) only[go_sem,seval,reduceCtorEq,li,lj,gi,gj];(refine zD (n3 (a:=s.lab s.nums[i]) (b:=s.lab s.nums[j]) (by omega) (by omega)) ?_);refine zU ?_;generalize hJ:aF (s.lab s.nums[i]) (s.lab s.nums[j])=J at*;have hres:s.res os s.nums[i] s.nums[j]=J.filter (has (s.keep os s.nums[i] s.nums[j])):=by rw[Osd.res,hJ]
 rw[hres];(refine bC (Wk.nilE 7 1 _ _ rfl) ?_;simp only[go_sem,seval,reduceCtorEq]);refine aA (J.length) (mkB 73 4722366482865350254080) (fun k=>[(31,.d (.int k)),(7,.own 1 0 ((J.take k).filter (has (s.keep os s.nums[i] s.nums[j]))).length)]) (fun k=>[(1,iv ((J.take k).filter (has (s.keep os s.nums[i] s.nums[j]))))]) (h1:=by first|(simp only[go_sem,seval,reduceCtorEq,nz,na,n1,List.take_zero,List.filter_nil,br];first|done|rfl)|rfl) (h2:=by first|(simp only[go_sem,seval,reduceCtorEq,nz,na,n1,List.take_zero,List.filter_nil,br];first|done|rfl)|rfl) (hr:=fun k hk=> ?_);unfold cR
 have hfl:=dS J k (has (s.keep os s.nums[i] s.nums[j]));by_cases hlt:k<J.length
 ·have d1:(k:Int)<J.length:=by omega
  have g:J[k]? =some J[k]:=zg hlt;simp(disch:=omega) only[go_sem,seval,reduceCtorEq,d1,g];(refine zC (dO (xs:=os) (x:=J[k]) (by omega)) ?_);refine zV ?_;refine aA (s.nums.length) (mkB 73 73786835557349857280) (fun q=>[(46,.d (.int q)),(10,.d (.bool (oL s os s.nums[i] s.nums[j] J[k] q)))]) (fun q=>[]) (h1:=by first|(simp only[go_sem,seval,reduceCtorEq,nz,na,n1,x8];first|done|rfl)|rfl) (h2:=by first|(simp only[go_sem,seval,reduceCtorEq,nz,na,n1,x8];first|done|rfl)|rfl) (hr:=fun q hq=> ?_);unfold cU;by_cases hltq:q<s.nums.length
  ·have d2:(q:Int)<s.nums.length:=by omega
   have g2:=AD (f:=s.lab) hltq;have hop:=uc (dL s) hi hj hltq;have lq:=h.len s.nums[q];simp(disch:=omega) only[go_sem,seval,reduceCtorEq,d2,g2];refine⟨by omega, ?_⟩;by_cases h1:q=i
   ·have e1:(q !=i)=false:=by simp [h1]
    have c1:=eJ q i;rw[e1]at c1;have hn:=x9 (os:=os) (a:=s.nums[i]) (b:=s.nums[j]) (l:=J[k]) hltq (by rw[hop,e1];rfl);simp(disch:=omega) only[go_sem,seval,reduceCtorEq,c1];(refine Next.drop (mkB 73 73786835557349857280) (by omega) (h1:= ?_) (h2:= ?_)<;>first|(simp only[go_sem,seval,reduceCtorEq,nz,na,n1,hn];first|done|rfl)|rfl|skip)
   ·have e1:(q !=i)=true:=by simp [h1]
    have c1:=eJ q i;rw[e1]at c1;by_cases h2:q=j
    ·have e2:(q !=j)=false:=by simp [h2]
     have c2:=eJ q j;rw[e2]at c2;have hn:=x9 (os:=os) (a:=s.nums[i]) (b:=s.nums[j]) (l:=J[k]) hltq (by rw[hop,e1,e2];rfl);simp(disch:=omega) only[go_sem,seval,reduceCtorEq,c1,c2];(refine Next.drop (mkB 73 73786835557349857280) (by omega) (h1:= ?_) (h2:= ?_)<;>first|(simp only[go_sem,seval,reduceCtorEq,nz,na,n1,hn];first|done|rfl)|rfl|skip)
    ·have e2:(q !=j)=true:=by simp [h2]
     have c2:=eJ q j;rw[e2]at c2;simp(disch:=omega) only[go_sem,seval,reduceCtorEq,c1,c2];(refine zC (dO (xs:=s.lab s.nums[q]) (x:=J[k]) (by omega)) ?_);cases e3:has (s.lab s.nums[q]) J[k]
     ·have hn:=x9 (os:=os) (a:=s.nums[i]) (b:=s.nums[j]) (l:=J[k]) hltq (by rw[e3,Bool.and_false])
      simp(disch:=omega) only[go_sem,seval,reduceCtorEq,e3];(refine Next.drop (mkB 73 73786835557349857280) (by omega) (h1:= ?_) (h2:= ?_)<;>first|(simp only[go_sem,seval,reduceCtorEq,nz,na,n1,hn];first|done|rfl)|rfl|skip)
     ·have hn:=FM (os:=os) (a:=s.nums[i]) (b:=s.nums[j]) (l:=J[k]) hltq (by rw[hop,e1,e2,e3];rfl)
      simp(disch:=omega) only[go_sem,seval,reduceCtorEq,e3];(refine Next.drop (mkB 73 73786835557349857280) (by omega) (h1:= ?_) (h2:= ?_)<;>first|(simp only[go_sem,seval,reduceCtorEq,nz,na,n1,hn];first|done|rfl)|rfl|skip)
  ·have d2:¬(q:Int)<s.nums.length:=by omega
   have hall:=FN (os:=os) (a:=s.nums[i]) (b:=s.nums[j]) (l:=J[k]) (show s.nums.length≤q by omega);simp(disch:=omega) only[go_sem,seval,reduceCtorEq,d2,hall];cases hh:has (s.keep os s.nums[i] s.nums[j]) J[k]
   ·have e:=dy (p:=has (s.keep os s.nums[i] s.nums[j])) hlt hh
    simp(disch:=omega) only[go_sem,seval,reduceCtorEq,hh];(refine Next.drop (mkB 73 4722366482865350254080) (by omega) (h1:= ?_) (h2:= ?_)<;>first|(simp only[go_sem,seval,reduceCtorEq,nz,na,n1,e];first|done|rfl)|rfl|skip)
   ·have e:=dR (p:=has (s.keep os s.nums[i] s.nums[j])) hlt hh
    simp(disch:=omega) only[go_sem,seval,reduceCtorEq,hh]
    (repeat (refine And.intro (by omega) ?_))
    (refine Next.drop (mkB 73 4722366482865350254080) (by omega) (h1:= ?_) (h2:= ?_)<;>first|(simp only[go_sem,seval,reduceCtorEq,nz,na,n1,e,List.length_append];first|done|rfl)|rfl|skip)
 ·have d1:¬(k:Int)<J.length:=by omega
  obtain rfl:k=J.length:=by omega
  simp(disch:=omega) only[go_sem,seval,reduceCtorEq,d1,List.take_length];exact zX
theorem fJ{D os:List Int}{s:Osd}{m i j:Nat}(hD:D.length=100)(h:OsOk s m)(hm:m≤1000)(ho:os.length≤1048576)(hi:i<s.nums.length)(hj:j<s.nums.length):
  Does Tryz.prog 102 [.ptr 0 0,.d (.int i),.d (.int j)] [osR D os s] (.agg [.d (.int s.nums[i]),.d (.int s.nums[j])]) [osR D os (s.step os s.nums[i] s.nums[j])]:=by
 have hnl:=lX h;have hall:=h.n;have li:(i:Int)<s.nums.length:=by omega
 have lj:(j:Int)<s.nums.length:=by omega
 have gi:=Ca (f:=s.lab) hi;have gj:=Ca (f:=s.lab) hj;refine zS Tryz.func102 jj ?_;unfold dW;simp only[osR,lvS];refine zT ?_;simp(disch:=omega) only[go_sem,seval,reduceCtorEq,li,lj,gi,gj];(refine zD (eh (D:=D) (os:=os) (i:=i) (j:=j) hD h hm ho hi hj) ?_ (by simp only[go_sem,seval,reduceCtorEq,osP,lvS]));refine zV ?_;(refine bC (Wk.nilE 9 2 _ _ rfl) ?_;simp only[go_sem,seval,reduceCtorEq])
 refine aA (s.nums.length) (mkB 76 2305825417027652608) (fun k=>[(43,.d (.int k)),(9,.own 5 0 ((s.nums.take k).filter (Osd.off s.nums[i] s.nums[j])).length)]) (fun k=>[(5,lvA s.lab ((s.nums.take k).filter (Osd.off s.nums[i] s.nums[j])))]) (h1:=by first|(simp only[go_sem,seval,reduceCtorEq,nz,na,n1,List.take_zero,List.filter_nil,Ew];first|done|rfl)|rfl) (h2:=by first|(simp only[go_sem,seval,reduceCtorEq,nz,na,n1,List.take_zero,List.filter_nil,Ew];first|done|rfl)|rfl) (hr:=fun k hk=> ?_);unfold dC;have hfl:=dS s.nums k (Osd.off s.nums[i] s.nums[j]);by_cases hlt:k<s.nums.length
 ·have d1:(k:Int)<s.nums.length:=by omega
  have g:=AD (f:=s.lab) hlt;have hop:=uc (dL s) hi hj hlt;simp(disch:=omega) only[go_sem,seval,reduceCtorEq,d1,g];refine⟨by omega, ?_⟩;by_cases h1:k=i
  ·have e1:(k !=i)=false:=by simp [h1]
   have c1:=eJ k i;rw[e1]at c1;have e:=dy (p:=Osd.off s.nums[i] s.nums[j]) hlt (by rw[hop,e1];rfl);simp(disch:=omega) only[go_sem,seval,reduceCtorEq,c1];(refine Next.drop (mkB 76 2305825417027652608) (by omega) (h1:= ?_) (h2:= ?_)<;>first|(simp only[go_sem,seval,reduceCtorEq,nz,na,n1,e];first|done|rfl)|rfl|skip)
  ·have e1:(k !=i)=true:=by simp [h1]
   have c1:=eJ k i;rw[e1]at c1;by_cases h2:k=j
   ·have e2:(k !=j)=false:=by simp [h2]
    have c2:=eJ k j;rw[e2]at c2;have e:=dy (p:=Osd.off s.nums[i] s.nums[j]) hlt (by rw[hop,e1,e2];rfl);simp(disch:=omega) only[go_sem,seval,reduceCtorEq,c1,c2];(refine Next.drop (mkB 76 2305825417027652608) (by omega) (h1:= ?_) (h2:= ?_)<;>first|(simp only[go_sem,seval,reduceCtorEq,nz,na,n1,e];first|done|rfl)|rfl|skip)
   ·have e2:(k !=j)=true:=by simp [h2]
    have c2:=eJ k j;rw[e2]at c2;have e:=dR (p:=Osd.off s.nums[i] s.nums[j]) hlt (by rw[hop,e1,e2];rfl);simp(disch:=omega) only[go_sem,seval,reduceCtorEq,c1,c2]
    (repeat (refine And.intro (by omega) ?_))
    (refine Next.drop (mkB 76 2305825417027652608) (by omega) (h1:= ?_) (h2:= ?_)<;>first|(simp only[go_sem,seval,reduceCtorEq,nz,na,n1,e,List.length_append];first|done|rfl)|rfl|skip)
 ·have d1:¬(k:Int)<s.nums.length:=by omega
  obtain rfl:k=s.nums.length:=by omega
  simp(disch:=omega) only[go_sem,seval,reduceCtorEq,d1,List.take_length];have hfl2:=List.length_filter_le (Osd.off s.nums[i] s.nums[j]) s.nums;refine⟨by omega, ?_⟩;have hns:=fU (os:=os) (a:=s.nums[i]) (b:=s.nums[j]) h;have hrow:lvA s.lab (s.nums.filter (Osd.off s.nums[i] s.nums[j]))++[.d (.int s.all.length),.d (.sl (s.res os s.nums[i] s.nums[j]).length (dv (s.res os s.nums[i] s.nums[j])))]=lvA (s.step os s.nums[i] s.nums[j]).lab (s.step os s.nums[i] s.nums[j]).nums:=by
   rw[hns,Ey,FA (f:=(s.step os s.nums[i] s.nums[j]).lab) (g:=s.lab) (fun q hq=>sC h (by have:=eC.1 (List.mem_filter.1 hq).1;omega)),hall];simp only[lvA,List.flatMap_cons,List.flatMap_nil,List.append_nil,iz h,ints]
  have hlen:(s.nums.filter (Osd.off s.nums[i] s.nums[j])).length+1=(s.step os s.nums[i] s.nums[j]).nums.length:=by rw[hns];simp
  have hal:(s.all.length:Int)+1=((s.step os s.nums[i] s.nums[j]).all.length:Int):=by simp [Osd.step]
  (refine FnEnd.wk (Wk.freeze 3 (nb rfl) rfl (bn) rfl rfl) ?_);(simp only[go_sem,seval,reduceCtorEq,hrow,hlen,hal]);generalize s.step os s.nums[i] s.nums[j]=s' at*;have htk:List.take (s'.nums.length*2) (lvD s'.lab s'.nums)=lvD s'.lab s'.nums:=zt (by rw[AC];exact Nat.le_refl _);have htd:List.take s.nums.length s.nums=s.nums:=List.take_length;(refine FnEnd.wk (Wk.freeze 5 (nb rfl) rfl (rI) rfl rfl) ?_);(simp only[go_sem,seval,reduceCtorEq,htk]);exact zX
theorem o8{D os:List Int}{s:Osd}{m:Nat}{a b:Int}(hD:D.length=100)(h:OsOk s m)(hm:m≤1000)(ho:os.length≤1048576)(hf:dj s a b=true):
  Does Tryz.prog 66 [.ptr 0 0,.agg [.d (.int a),.d (.int b)]] [osR D os s] (.d (.bool true)) [osR D os (s.step os a.toNat b.toNat)]:=by
 obtain⟨x,y,rfl,rfl,hx,hy,hxy⟩:=kJ hf;have hnl:=lX h;obtain⟨i,hi,hix⟩:=List.mem_iff_getElem.1 hx;obtain⟨j,hj,hjy⟩:=List.mem_iff_getElem.1 hy;have hpl:∀(q:Nat) (hq:q<s.nums.length),place (natI s.nums) s.nums[q]=q:=fun q hq=>by
  have hq':q<(natI s.nums).length:=by rw[wZ];exact hq
  have:=ez hq' (dQ (rl (dL s)) hq')
  rwa [sv hq]at this
 have pi:=hpl i hi;have pj:=hpl j hj;rw[hix]at pi;rw[hjy]at pj;have c1:¬(i:Int)<0:=by omega
 have c2:¬(j:Int)<0:=by omega
 have c3:¬(x:Int)≥y:=by omega
 subst hix hjy;simp only[Int.toNat_natCast];refine zS Tryz.func66 eD ?_;unfold cP;simp only[osR,lvS];refine zT ?_;(refine zD (bT (D:=D) (os:=os) (s:=s) (x:=s.nums[i]) hD h hm) ?_ (by simp only[go_sem,seval,reduceCtorEq,osP,lvS]));simp only[go_sem,seval,reduceCtorEq,pi];(refine zC (bT (D:=D) (os:=os) (s:=s) (x:=s.nums[j]) hD h hm) ?_ (by simp only[go_sem,seval,reduceCtorEq,osP,lvS]));simp only[go_sem,seval,reduceCtorEq,pj,c1,c2,c3]
 (refine am [0] [] false (zd rfl) ?_ _ ?_ (fJ (D:=D) (os:=os) (s:=s) hD h hm ho hi hj) ?_ ?_;(focus (simp only[go_sem,seval,reduceCtorEq,osR,lvS];done));(focus (simp only[go_sem,seval,reduceCtorEq,osR,lvS];done));(focus (first|rfl|(simp only[go_sem,seval,reduceCtorEq,osR,lvS];done))));simp only[go_sem,seval,reduceCtorEq,osR,lvS];exact zX
theorem oz{D os:List Int}{s:Osd}{m:Nat}{a b:Int}(hD:D.length=100)(h:OsOk s m)(hm:m≤1000)(ho:os.length≤1048576)(hf:dj s a b=false):
  Does Tryz.prog 66 [.ptr 0 0,.agg [.d (.int a),.d (.int b)]] [osR D os s] (.d (.bool false)) [osR D os s]:=by
 have hnl:=lX h;refine zS Tryz.func66 eD ?_;unfold cP;simp only[osR,lvS];refine zT ?_;(refine zD (bT (D:=D) (os:=os) (s:=s) (x:=a) hD h hm) ?_ (by simp only[go_sem,seval,reduceCtorEq,osP,lvS]));refine zU ?_;(refine zC (bT (D:=D) (os:=os) (s:=s) (x:=b) hD h hm) ?_ (by simp only[go_sem,seval,reduceCtorEq,osP,lvS]));by_cases ha:a∈natI s.nums
 rotate_left
 ·have c1:place (natI s.nums) a<0:=cx.2 ha
  simp only[go_sem,seval,reduceCtorEq,c1];exact zX
 have c1:¬ place (natI s.nums) a<0:=fun e=>cx.1 e ha
 by_cases hb:b∈natI s.nums
 rotate_left
 ·have c2:place (natI s.nums) b<0:=cx.2 hb
  simp only[go_sem,seval,reduceCtorEq,c1,c2];exact zX
 have c2:¬ place (natI s.nums) b<0:=fun e=>cx.1 e hb
 have c3:a≥b:=by
  by_cases e:a<b
  ·rw[dj,decide_eq_true ⟨ha,hb,e⟩]at hf;cases hf
  ·omega
 simp only[go_sem,seval,reduceCtorEq,c1,c2,c3];exact zX
set_option maxRecDepth 100000
section
variable {T : List Int} {L : List (List Int)} {k : Nat}
end
section
variable {s : Osd} {os : List Int} {a b q m : Nat}
end
theorem jp{N:Net}(h:netOk N=true){t:Ten}(ht:t∈N.ts){x:Int}(hx:x∈t.labels):ao t x=dimN N.ts x:=by
 obtain⟨k,hk,rfl⟩:=List.mem_iff_getElem.1 ht;have hax:=bq h;have hc:=(ae.1 h).2.2.2.1 k hk x hk hx;have hd:=cg (hax _ (List.getElem_mem hk)) hx;have h1:dimN (N.ts.take (k+1)) x=ao N.ts[k] x:=by
  rw[uR hax hk,if_pos hx];split
  ·rfl
  ·rcases hc with e|e
   ·rename_i h0;exact absurd e h0
   ·exact e
 have h2:=oZ (N.ts.take (k+1)) (N.ts.drop (k+1)) x fun t ht hx=>by
  have:=cg (hax t (List.mem_of_mem_take ht)) hx;omega
 rw[List.take_append_drop,h1,if_neg (by omega)]at h2;exact h2.symm
theorem IM{N:Net}(h:netOk N=true){t:Ten}(ht:t∈N.ts):t.labels.map (atT (bA N.ts).1)=t.dims:=by
 have hax:=bq h;have hok:=(ae.1 h).2.2.2.1;have hD:=du hax;rw[← mc (hax t ht)];refine List.map_congr_left fun x hx=> ?_
 have hb:0≤x∧x≤99:=by
  obtain⟨k,hk,rfl⟩:=List.getElem_of_mem hx;have:=(hax t ht).2.2 k hk;unfold axAt at this;rw[ac hk]at this;omega
 rw[hD.2 (hD.1.2 hok) x hb,jp h ht hx]
end Go.Proofs.YtobhmajhachnaaaGreatDoor
