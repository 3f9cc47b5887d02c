/-
 The state of an order as cells: the table of dimensions, the open labels, the tensors that are there, the next number. No condition.
-/
import Derived.Test.YtjfmckhbmdjnpaaGreatPlO
import Derived.Test.YtjfmckhbmdjnpaaGreatEliA
import Derived.Test.YtjfmckhbmdjnpaaGreatCoD
set_option linter.unusedSimpArgs false
set_option linter.unusedVariables false
namespace Go.Proofs.YtjfmckhbmdjnpaaGreat
open Go.RowKit Go.Lift Plain
def osB (T:List Int) (x y z:AV):List AV:=iv T++[x,y,z]
def osD (T:List Int) (x y z:D):List D:=dv T++[x,y,z]
section
variable {T : List Int} {x y z : AV} {a b c : D}
theorem It (h:T.length=100):(osB T x y z).length=103:=by simp [osB,cA,h]
theorem CM (h:T.length=100):(osB T x y z)[101]? =some y:=by simp [osB,cA,h,List.getElem?_append_right]
theorem Iu (h:T.length=100):(osB T x y z)[102]? =some z:=by simp [osB,cA,h,List.getElem?_append_right]
theorem vE (h:T.length=100):(osB T x y z).take 100=iv T:=by
 have:(iv T).length=100:=by simp [cA,cU,h]
 rw[osB,List.take_left' this]
theorem AF (h:T.length=100) (u:AV):(osB T x y z).take 100++[u]++(osB T x y z).drop 101=osB T u y z:=by
 have h1:(iv T).length=100:=by simp [cA,cU,h]
 have h2:(iv T++[x]).length=101:=by simp [cA,cU,h]
 rw[vE h,osB,show iv T++[x,y,z]=(iv T++[x])++[y,z]by simp,List.drop_left' h2]
 simp [osB]
theorem FT (h:T.length=100) (u:AV):(osB T x y z).take 101++[u]++(osB T x y z).drop 102=osB T x u z:=by
 have h1:(iv T++[x]).length=101:=by simp [cA,cU,h]
 have h2:(iv T++[x,y]).length=102:=by simp [cA,cU,h]
 rw[osB,show iv T++[x,y,z]=(iv T++[x])++[y,z]by simp,List.take_left' h1,show iv T++[x]++[y,z]=(iv T++[x,y])++[z]by simp,List.drop_left' h2]
 simp [osB]
theorem FS (h:T.length=100) (u:AV):(osB T x y z).take 102++[u]++(osB T x y z).drop 103=osB T x y u:=by
 have h1:(iv T++[x,y]).length=102:=by simp [cA,cU,h]
 have h2:(iv T++[x,y,z]).length=103:=by simp [cA,cU,h]
 rw[osB,List.drop_eq_nil_of_le (Nat.le_of_eq h2),show iv T++[x,y,z]=(iv T++[x,y])++[z]by simp,List.take_left' h1]
 simp [osB]
theorem FW (h:T.length=100):((osB T x y z).drop 101).take 1=[y]:=by
 have h1:(iv T++[x]).length=101:=by simp [cA,cU,h]
 rw[osB,show iv T++[x,y,z]=(iv T++[x])++[y,z]by simp,List.drop_left' h1];rfl
theorem FV (h:T.length=100):((osB T x y z).drop 102).take 1=[z]:=by
 have h1:(iv T++[x,y]).length=102:=by simp [cA,cU,h]
 rw[osB,show iv T++[x,y,z]=(iv T++[x,y])++[z]by simp,List.drop_left' h1];rfl
theorem I8 (ρ:Nat→Option Nat):rnL ρ (osB T x y z)=osB T (rn ρ x) (rn ρ y) (rn ρ z):=by
 rw[aJ,osB,List.map_append, ← aJ,yJ];rfl
theorem Ge (k e:Nat) (ls:List D):mapL (fzG k e ls) (osB T x y z)=osB T (mapA (fzG k e ls) x) (mapA (fzG k e ls) y) (mapA (fzG k e ls) z):=by
 rw[dt,osB,List.map_append, ← dt,vQ];rfl
theorem qj (s:St):∀ (l m:List AV),cW s (l++m)=match cW s l,cW s m with
  | some a,some b=>some (a++b)
  | _,_=>none
 | [],m=>by
  rw[List.nil_append,cW]
  cases cW s m<;>rfl
 | x :: l,m=>by
  rw[List.cons_append]
  simp only[cW]
  rw[qj s l m]
  cases wU s x<;>cases cW s l<;>cases cW s m<;>rfl
theorem yu (s:St):∀ xs:List Int,cW s (iv xs)=some (dv xs)
 | []=>rfl
 | x :: l=>by
  have:=yu s l
  simp only[iv,dv,List.map_cons,cW,wU,exp1]at this ⊢
  rw[this]
theorem Cg (s:St):cW s (osB T (.d a) (.d b) (.d c))=some (osD T a b c):=by
 rw[osB,qj,yu];rfl
theorem Ko:(osD T a b c).isEmpty=false:=by
 rw[osD];cases dv T<;>rfl
theorem Iq (h:T.length=100):(osD T a b c).length=103:=by simp [osD,cU,h]
theorem Is (h:T.length=100):(osD T a b c)[100]? =some a:=by simp [osD,cU,h,List.getElem?_append_right]
theorem Ir (h:T.length=100):(osD T a b c)[101]? =some b:=by simp [osD,cU,h,List.getElem?_append_right]
theorem FP (h:T.length=100):(osD T a b c).take 100=dv T:=by
 have:(dv T).length=100:=by simp [cA,cU,h]
 rw[osD,List.take_left' this]
end
attribute [go_sem] It CM Iu vE AF FT FS FW FV I8 Ge Cg Ko Iq Is Ir FP
def lvD (f:Nat→List Int) (l:List Nat):List D:=l.flatMap fun (i:Nat)=>[.int (i:Int),ints (f i)]
def lvA (f:Nat→List Int) (l:List Nat):List AV:=l.flatMap fun (i:Nat)=>[.d (.int (i:Int)),.d (ints (f i))]
section
variable {f g : Nat → List Int} {l m : List Nat} {k : Nat}
theorem yX:(lvD f l).length=l.length*2:=by
 induction l with
 | nil=>rfl
 | cons x l ih=>rw[lvD,List.flatMap_cons,List.length_append, ← lvD,ih];simp;omega
theorem IA:(lvA f l).length=l.length*2:=by
 induction l with
 | nil=>rfl
 | cons x l ih=>rw[lvA,List.flatMap_cons,List.length_append, ← lvA,ih];simp;omega
theorem CZ:lvA f []=[]:=nr rfl
theorem rL:∀ {l:List Nat} {k:Nat} (h:k<l.length),(lvD f l).drop (k*2)=.int l[k] :: ints (f l[k]) :: lvD f (l.drop (k+1))
 | x :: l,0,_=>by simp [lvD]
 | x :: l,k+1,h=>by
  have:=rL (l:=l) (k:=k) (by simpa using h)
  rw[lvD,List.flatMap_cons, ← lvD,show (k+1)*2=2+k*2 by omega, ← List.drop_drop]
  simpa using this
theorem uZ (h:k<l.length):((lvD f l).drop (k*2)).take 2=[.int l[k],ints (f l[k])]:=by rw[rL h];rfl
theorem AO (h:k<l.length):(lvD f l)[k*2]? =some (.int l[k]):=by
 have:=congrArg (fun x=>x[0]?) (rL (f:=f) h)
 simpa using this
theorem rK (h:k<l.length):(lvD f l)[k*2+1]? =some (ints (f l[k])):=by
 have:=congrArg (fun x=>x[1]?) (rL (f:=f) h)
 simpa using this
theorem D0:lvA f (l++m)=lvA f l++lvA f m:=by simp [lvA]
theorem Gh (i:Nat):lvA f l++[.d (.int i),.d (.sl (f i).length (dv (f i)))]=lvA f (l++[i]):=by simp [lvA,ints]
theorem E9 (h:∀ i∈l,f i=g i):lvA f l=lvA g l:=by
 unfold lvA
 exact oJ fun x hx=>by rw[h x hx]
theorem yY:lvA f l=(lvD f l).map .d:=by
 induction l with
 | nil=>rfl
 | cons x l ih=>simp only[lvA,lvD,List.flatMap_cons,List.map_append]at ih ⊢;rw[ih];rfl
theorem oV:∀ L:List D,cY (L.map .d)=some L
 | []=>rfl
 | x :: l=>by simp only[List.map_cons,cY,uq,oV l]
theorem r9:cY (lvA f l)=some (lvD f l):=by rw[yY,oV]
theorem Ia (ρ:Nat→Option Nat):rnL ρ (lvA f l)=lvA f l:=by
 rw[aJ,yY,List.map_map];exact List.map_congr_left fun x _=>rfl
theorem Gf (k e:Nat) (ls:List D):mapL (fzG k e ls) (lvA f l)=lvA f l:=by
 rw[dt,yY,List.map_map];exact List.map_congr_left fun x _=>rfl
end
theorem Gg (g:AV→AV) (l m:List AV):mapL g (l++m)=mapL g l++mapL g m:=by rw[dt,dt,dt,List.map_append]
attribute [go_sem] Gg yX IA Ia Gf r9 Gh
def lvS (s:Osd):D:=.sl s.nums.length (lvD s.lab s.nums)
theorem ku (q i:Nat):((q:Int) !=(i:Int))=(q !=i):=by rw[Bool.eq_iff_iff,bne_iff_ne,bne_iff_ne];omega
theorem putG {α:Type} {xs:List α} {i:Nat} {v:α} (h:i<xs.length):xs.take i++[v]++xs.drop (i+1)=xs.set i v:=by
 rw[List.append_assoc,List.singleton_append,List.set_eq_take_append_cons_drop,if_pos h]
set_option maxRecDepth 100000
def osP (D os:List Int) (s:Osd):AV:=.rptr (osD D (ints os) (lvS s) (.int s.all.length)) 0
def osR (D os:List Int) (s:Osd):Option Root:=some ⟨0,false,osB D (.d (ints os)) (.d (lvS s)) (.d (.int s.all.length))⟩
theorem dd {D os:List Int} {s:Osd} {m:Nat} {x:Int} (hD:D.length=100) (h:OsOk s m) (hm:m≤1000):
  Does Tryz.prog 101 [osP D os s,.d (.int x)] [] (.d (.int (bB (natI s.nums) x))) []:=by
 have hnl:=jd h
 (refine spec_of (by kernel_rfl) Tryz.func101 lQ (fnOk (nb rfl) ?_);unfold eU)
 simp only[osP,lvS]
 (simp only[Nat.reduceSub,Zl,zn,Nat.reduceAdd,zF];try simp only[af]);(simp only[go_sem,seval,reduceCtorEq,List.replicate])
 simp(disch:=omega) only[go_sem,seval,reduceCtorEq]
 refine bG (s.nums.length) (mkB 23 8380528) (fun k=>x∉natI (s.nums.take k)) (fun k=>[(12,.d (.int k))]) (fun k=>[]) (hi:=by simp [natI]) (h1:=by first | (simp only[go_sem,seval,reduceCtorEq,nz,na,n1];first | done | rfl) | rfl) (h2:=by first | (simp only[go_sem,seval,reduceCtorEq,nz,na,n1];first | done | rfl) | rfl) (hr:=fun k hk hi=> ?_)
 unfold ei
 by_cases hlt:k<s.nums.length
 ·have d1:(k:Int)<s.nums.length:=by omega
  have g:=uZ (f:=s.lab) hlt
  simp(disch:=omega) only[go_sem,seval,reduceCtorEq,d1,g]
  refine⟨by omega, ?_⟩
  by_cases hx:(s.nums[k]:Int)=x
  ·have c:((s.nums[k]:Int)==x)=true:=by simp [hx]
   have hp:bB (natI s.nums) x=k:=by
    have hk':k<(natI s.nums).length:=by rw[AL];exact hlt
    have:=ff hk' (by rw[vN hlt];rw[show List.take k (natI s.nums)=natI (s.nums.take k)by simp [natI]];rw[hx];exact hi)
    rwa [vN hlt,hx]at this
   simp(disch:=omega) only[go_sem,seval,reduceCtorEq,c,hp]
   (refine zE ?_ ?_<;>try simp only[go_sem,seval,reduceCtorEq])
  ·have c:((s.nums[k]:Int)==x)=false:=by simp [hx]
   simp(disch:=omega) only[go_sem,seval,reduceCtorEq,c]
   have hi':x∉natI (s.nums.take (k+1)):=by
    rw[bb hlt]
    simp only[natI,List.map_append,List.map_cons,List.map_nil,List.mem_append,List.mem_singleton]
    exact fun e=>e.elim hi (fun e=>hx e.symm)
   (refine NextI.drop (mkB 23 8380528) (by omega) (hi') (h1:= ?_) (h2:= ?_)<;>first | (simp only[go_sem,seval,reduceCtorEq,nz,na,n1];first | done | rfl) | rfl | skip)
 ·have d1:¬ (k:Int)<s.nums.length:=by omega
  have hp:bB (natI s.nums) x= -1:=gE (by rw[zt (by omega)]at hi;exact hi)
  simp(disch:=omega) only[go_sem,seval,reduceCtorEq,d1,hp]
  (refine zE ?_ ?_<;>try simp only[go_sem,seval,reduceCtorEq])
theorem kc {D os:List Int} {s:Osd} {m i j:Nat} (hD:D.length=100) (h:OsOk s m) (hm:m≤1000) (ho:os.length≤1048576) (hi:i<s.nums.length) (hj:j<s.nums.length):
  Does Tryz.prog 125 [osP D os s,.d (.int i),.d (.int j)] [] (.own 0 0 (s.res os s.nums[i] s.nums[j]).length) [some ⟨1,true,iv (s.res os s.nums[i] s.nums[j])⟩]:=by
 have hnl:=jd h
 have li:(i:Int)<s.nums.length:=by omega
 have lj:(j:Int)<s.nums.length:=by omega
 have gi:=rK (f:=s.lab) hi
 have gj:=rK (f:=s.lab) hj
 have la:=h.len s.nums[i]
 have lb:=h.len s.nums[j]
 obtain⟨hjn,hjb,hjl⟩:=h.join s.nums[i] s.nums[j]
 (refine spec_of (by kernel_rfl) Tryz.func125 fS (fnOk (nb rfl) ?_);unfold d9)
 simp only[osP,lvS]
 (simp only[Nat.reduceSub,Zl,zn,Nat.reduceAdd,zF];try simp only[af]);(simp only[go_sem,seval,reduceCtorEq,List.replicate])
 simp(disch:=omega) only[go_sem,seval,reduceCtorEq,li,lj,gi,gj]
 (refine zD (iz (a:=s.lab s.nums[i]) (b:=s.lab s.nums[j]) (by omega) (by omega)) ?_)
 simp only[go_sem,seval,reduceCtorEq]
 generalize hJ:ao (s.lab s.nums[i]) (s.lab s.nums[j])=J at*
 have hres:s.res os s.nums[i] s.nums[j]=J.filter (has (s.keep os s.nums[i] s.nums[j])):=by rw[Osd.res,hJ]
 rw[hres]
 (refine ir (Wk.nilE 7 1 _ _ rfl) ?_;simp only[go_sem,seval,reduceCtorEq])
 refine aP (J.length) (mkB 73 4722366482865350254080) (fun k=>[(31,.d (.int k)),(7,.own 1 0 ((J.take k).filter (has (s.keep os s.nums[i] s.nums[j]))).length)]) (fun k=>[(1,iv ((J.take k).filter (has (s.keep os s.nums[i] s.nums[j]))))]) (h1:=by first | (simp only[go_sem,seval,reduceCtorEq,nz,na,n1,List.take_zero,List.filter_nil,cj];first | done | rfl) | rfl) (h2:=by first | (simp only[go_sem,seval,reduceCtorEq,nz,na,n1,List.take_zero,List.filter_nil,cj];first | done | rfl) | rfl) (hr:=fun k hk=> ?_)
 unfold cK
 have hfl:=fV J k (has (s.keep os s.nums[i] s.nums[j]))
 by_cases hlt:k<J.length
 ·have d1:(k:Int)<J.length:=by omega
  have g:J[k]? =some J[k]:=zg hlt
  simp(disch:=omega) only[go_sem,seval,reduceCtorEq,d1,g]
  (refine zC (fo (xs:=os) (x:=J[k]) (by omega)) ?_)
  simp(disch:=omega) only[go_sem,seval,reduceCtorEq]
  refine aP (s.nums.length) (mkB 73 73786835557349857280) (fun q=>[(46,.d (.int q)),(10,.d (.bool (oA s os s.nums[i] s.nums[j] J[k] q)))]) (fun q=>[]) (h1:=by first | (simp only[go_sem,seval,reduceCtorEq,nz,na,n1,vS];first | done | rfl) | rfl) (h2:=by first | (simp only[go_sem,seval,reduceCtorEq,nz,na,n1,vS];first | done | rfl) | rfl) (hr:=fun q hq=> ?_)
  unfold cL
  by_cases hltq:q<s.nums.length
  ·have d2:(q:Int)<s.nums.length:=by omega
   have g2:=uZ (f:=s.lab) hltq
   have hop:=xO (jc s) hi hj hltq
   have lq:=h.len s.nums[q]
   simp(disch:=omega) only[go_sem,seval,reduceCtorEq,d2,g2]
   refine⟨by omega, ?_⟩
   by_cases h1:q=i
   ·have e1:(q !=i)=false:=by simp [h1]
    have c1:=ku q i
    rw[e1]at c1
    have hn:=vT (os:=os) (a:=s.nums[i]) (b:=s.nums[j]) (l:=J[k]) hltq (by rw[hop,e1];rfl)
    simp(disch:=omega) only[go_sem,seval,reduceCtorEq,c1]
    (refine Next.drop (mkB 73 73786835557349857280) (by omega) (h1:= ?_) (h2:= ?_)<;>first | (simp only[go_sem,seval,reduceCtorEq,nz,na,n1,hn];first | done | rfl) | rfl | skip)
   ·have e1:(q !=i)=true:=by simp [h1]
    have c1:=ku q i
    rw[e1]at c1
    by_cases h2:q=j
    ·have e2:(q !=j)=false:=by simp [h2]
     have c2:=ku q j
     rw[e2]at c2
     have hn:=vT (os:=os) (a:=s.nums[i]) (b:=s.nums[j]) (l:=J[k]) hltq (by rw[hop,e1,e2];rfl)
     simp(disch:=omega) only[go_sem,seval,reduceCtorEq,c1,c2]
     (refine Next.drop (mkB 73 73786835557349857280) (by omega) (h1:= ?_) (h2:= ?_)<;>first | (simp only[go_sem,seval,reduceCtorEq,nz,na,n1,hn];first | done | rfl) | rfl | skip)
    ·have e2:(q !=j)=true:=by simp [h2]
     have c2:=ku q j
     rw[e2]at c2
     simp(disch:=omega) only[go_sem,seval,reduceCtorEq,c1,c2]
     (refine zC (fo (xs:=s.lab s.nums[q]) (x:=J[k]) (by omega)) ?_)
     cases e3:has (s.lab s.nums[q]) J[k]
     ·have hn:=vT (os:=os) (a:=s.nums[i]) (b:=s.nums[j]) (l:=J[k]) hltq (by rw[e3,Bool.and_false])
      simp(disch:=omega) only[go_sem,seval,reduceCtorEq,e3]
      (refine Next.drop (mkB 73 73786835557349857280) (by omega) (h1:= ?_) (h2:= ?_)<;>first | (simp only[go_sem,seval,reduceCtorEq,nz,na,n1,hn];first | done | rfl) | rfl | skip)
     ·have hn:=Em (os:=os) (a:=s.nums[i]) (b:=s.nums[j]) (l:=J[k]) hltq (by rw[hop,e1,e2,e3];rfl)
      simp(disch:=omega) only[go_sem,seval,reduceCtorEq,e3]
      (refine Next.drop (mkB 73 73786835557349857280) (by omega) (h1:= ?_) (h2:= ?_)<;>first | (simp only[go_sem,seval,reduceCtorEq,nz,na,n1,hn];first | done | rfl) | rfl | skip)
  ·have d2:¬ (q:Int)<s.nums.length:=by omega
   have hall:=En (os:=os) (a:=s.nums[i]) (b:=s.nums[j]) (l:=J[k]) (show s.nums.length≤q by omega)
   simp(disch:=omega) only[go_sem,seval,reduceCtorEq,d2,hall]
   cases hh:has (s.keep os s.nums[i] s.nums[j]) J[k]
   ·have e:=lT (p:=has (s.keep os s.nums[i] s.nums[j])) hlt hh
    simp(disch:=omega) only[go_sem,seval,reduceCtorEq,hh]
    (refine Next.drop (mkB 73 4722366482865350254080) (by omega) (h1:= ?_) (h2:= ?_)<;>first | (simp only[go_sem,seval,reduceCtorEq,nz,na,n1,e];first | done | rfl) | rfl | skip)
   ·have e:=mT (p:=has (s.keep os s.nums[i] s.nums[j])) hlt hh
    simp(disch:=omega) only[go_sem,seval,reduceCtorEq,hh]
    (repeat (refine And.intro (by omega) ?_))
    (refine Next.drop (mkB 73 4722366482865350254080) (by omega) (h1:= ?_) (h2:= ?_)<;>first | (simp only[go_sem,seval,reduceCtorEq,nz,na,n1,e,List.length_append];first | done | rfl) | rfl | skip)
 ·have d1:¬ (k:Int)<J.length:=by omega
  obtain rfl:k=J.length:=by omega
  simp(disch:=omega) only[go_sem,seval,reduceCtorEq,d1,List.take_length]
  (refine zE ?_ ?_<;>try simp only[go_sem,seval,reduceCtorEq])
theorem nM {D os:List Int} {s:Osd} {m i j:Nat} (hD:D.length=100) (h:OsOk s m) (hm:m≤1000) (ho:os.length≤1048576) (hi:i<s.nums.length) (hj:j<s.nums.length):
  Does Tryz.prog 102 [.ptr 0 0,.d (.int i),.d (.int j)] [osR D os s] (.agg [.d (.int s.nums[i]),.d (.int s.nums[j])]) [osR D os (s.step os s.nums[i] s.nums[j])]:=by
 have hnl:=jd h
 have hall:=h.n
 have li:(i:Int)<s.nums.length:=by omega
 have lj:(j:Int)<s.nums.length:=by omega
 have gi:=AO (f:=s.lab) hi
 have gj:=AO (f:=s.lab) hj
 (refine spec_of (by kernel_rfl) Tryz.func102 jh (fnOk (nb rfl) ?_);unfold dI)
 simp only[osR,lvS]
 (simp only[Nat.reduceSub,Zl,zn,Nat.reduceAdd,zF];try simp only[af]);(simp only[go_sem,seval,reduceCtorEq,List.replicate])
 simp(disch:=omega) only[go_sem,seval,reduceCtorEq,li,lj,gi,gj]
 (refine cE (kc (D:=D) (os:=os) (i:=i) (j:=j) hD h hm ho hi hj) ?_ ?_ ?_;(focus (simp only[go_sem,seval,reduceCtorEq,osP,lvS];done));(first | rfl | (focus (simp only[go_sem];done))))
 simp(disch:=omega) only[go_sem,seval,reduceCtorEq]
 (refine ir (Wk.nilE 9 2 _ _ rfl) ?_;simp only[go_sem,seval,reduceCtorEq])
 refine aP (s.nums.length) (mkB 76 2305825417027652608) (fun k=>[(43,.d (.int k)),(9,.own 5 0 ((s.nums.take k).filter (Osd.off s.nums[i] s.nums[j])).length)]) (fun k=>[(5,lvA s.lab ((s.nums.take k).filter (Osd.off s.nums[i] s.nums[j])))]) (h1:=by first | (simp only[go_sem,seval,reduceCtorEq,nz,na,n1,List.take_zero,List.filter_nil,CZ];first | done | rfl) | rfl) (h2:=by first | (simp only[go_sem,seval,reduceCtorEq,nz,na,n1,List.take_zero,List.filter_nil,CZ];first | done | rfl) | rfl) (hr:=fun k hk=> ?_)
 unfold du
 have hfl:=fV s.nums k (Osd.off s.nums[i] s.nums[j])
 by_cases hlt:k<s.nums.length
 ·have d1:(k:Int)<s.nums.length:=by omega
  have g:=uZ (f:=s.lab) hlt
  have hop:=xO (jc s) hi hj hlt
  simp(disch:=omega) only[go_sem,seval,reduceCtorEq,d1,g]
  refine⟨by omega, ?_⟩
  by_cases h1:k=i
  ·have e1:(k !=i)=false:=by simp [h1]
   have c1:=ku k i
   rw[e1]at c1
   have e:=lT (p:=Osd.off s.nums[i] s.nums[j]) hlt (by rw[hop,e1];rfl)
   simp(disch:=omega) only[go_sem,seval,reduceCtorEq,c1]
   (refine Next.drop (mkB 76 2305825417027652608) (by omega) (h1:= ?_) (h2:= ?_)<;>first | (simp only[go_sem,seval,reduceCtorEq,nz,na,n1,e];first | done | rfl) | rfl | skip)
  ·have e1:(k !=i)=true:=by simp [h1]
   have c1:=ku k i
   rw[e1]at c1
   by_cases h2:k=j
   ·have e2:(k !=j)=false:=by simp [h2]
    have c2:=ku k j
    rw[e2]at c2
    have e:=lT (p:=Osd.off s.nums[i] s.nums[j]) hlt (by rw[hop,e1,e2];rfl)
    simp(disch:=omega) only[go_sem,seval,reduceCtorEq,c1,c2]
    (refine Next.drop (mkB 76 2305825417027652608) (by omega) (h1:= ?_) (h2:= ?_)<;>first | (simp only[go_sem,seval,reduceCtorEq,nz,na,n1,e];first | done | rfl) | rfl | skip)
   ·have e2:(k !=j)=true:=by simp [h2]
    have c2:=ku k j
    rw[e2]at c2
    have e:=mT (p:=Osd.off s.nums[i] s.nums[j]) hlt (by rw[hop,e1,e2];rfl)
    simp(disch:=omega) only[go_sem,seval,reduceCtorEq,c1,c2]
    (repeat (refine And.intro (by omega) ?_))
    (refine Next.drop (mkB 76 2305825417027652608) (by omega) (h1:= ?_) (h2:= ?_)<;>first | (simp only[go_sem,seval,reduceCtorEq,nz,na,n1,e,List.length_append];first | done | rfl) | rfl | skip)
 ·have d1:¬ (k:Int)<s.nums.length:=by omega
  obtain rfl:k=s.nums.length:=by omega
  simp(disch:=omega) only[go_sem,seval,reduceCtorEq,d1,List.take_length]
  have hfl2:=List.length_filter_le (Osd.off s.nums[i] s.nums[j]) s.nums
  refine⟨by omega, ?_⟩
  have hns:=eH (os:=os) (a:=s.nums[i]) (b:=s.nums[j]) h
  have hrow:lvA s.lab (s.nums.filter (Osd.off s.nums[i] s.nums[j]))++[.d (.int s.all.length),.d (.sl (s.res os s.nums[i] s.nums[j]).length (dv (s.res os s.nums[i] s.nums[j])))]=lvA (s.step os s.nums[i] s.nums[j]).lab (s.step os s.nums[i] s.nums[j]).nums:=by
   rw[hns,D0,E9 (f:=(s.step os s.nums[i] s.nums[j]).lab) (g:=s.lab) (fun q hq=>ot h (by have:=gM.1 (List.mem_filter.1 hq).1;omega)),hall]
   simp only[lvA,List.flatMap_cons,List.flatMap_nil,List.append_nil,dP h,ints]
  have hlen:(s.nums.filter (Osd.off s.nums[i] s.nums[j])).length+1=(s.step os s.nums[i] s.nums[j]).nums.length:=by rw[hns];simp
  have hal:(s.all.length:Int)+1=((s.step os s.nums[i] s.nums[j]).all.length:Int):=by simp [Osd.step]
  (refine FnEnd.wk (Wk.freeze 3 (nb rfl) rfl (cX) rfl rfl) ?_);(simp only[go_sem,seval,reduceCtorEq,hrow,hlen,hal])
  generalize s.step os s.nums[i] s.nums[j]=s' at*
  have htk:List.take (s'.nums.length*2) (lvD s'.lab s'.nums)=lvD s'.lab s'.nums:=zt (by rw[yX];exact Nat.le_refl _)
  have htd:List.take s.nums.length s.nums=s.nums:=List.take_length
  (refine FnEnd.wk (Wk.freeze 5 (nb rfl) rfl (r9) rfl rfl) ?_);(simp only[go_sem,seval,reduceCtorEq,htk])
  (refine zE ?_ ?_<;>try simp only[go_sem,seval,reduceCtorEq])
theorem di {D os:List Int} {s:Osd} {m:Nat} {a b:Int} (hD:D.length=100) (h:OsOk s m) (hm:m≤1000) (ho:os.length≤1048576) (hf:dQ s a b=true):
  Does Tryz.prog 49 [.ptr 0 0,.agg [.d (.int a),.d (.int b)]] [osR D os s] (.d (.bool true)) [osR D os (s.step os a.toNat b.toNat)]:=by
 obtain⟨x,y,rfl,rfl,hx,hy,hxy⟩:=oH hf
 have hnl:=jd h
 obtain⟨i,hi,hix⟩:=List.mem_iff_getElem.1 hx
 obtain⟨j,hj,hjy⟩:=List.mem_iff_getElem.1 hy
 have hpl:∀ (q:Nat) (hq:q<s.nums.length),bB (natI s.nums) s.nums[q]=q:=fun q hq=>by
  have hq':q<(natI s.nums).length:=by rw[AL];exact hq
  have:=ff hq' (jk (vM (jc s)) hq')
  rwa [vN hq]at this
 have pi:=hpl i hi
 have pj:=hpl j hj
 rw[hix]at pi
 rw[hjy]at pj
 have c1:¬ (i:Int)<0:=by omega
 have c2:¬ (j:Int)<0:=by omega
 have c3:¬ (x:Int)≥y:=by omega
 subst hix hjy
 simp only[Int.toNat_natCast]
 (refine spec_of (by kernel_rfl) Tryz.func49 dZ (fnOk (nb rfl) ?_);unfold cJ)
 simp only[osR,lvS]
 (simp only[Nat.reduceSub,Zl,zn,Nat.reduceAdd,zF];try simp only[af]);(simp only[go_sem,seval,reduceCtorEq,List.replicate])
 (refine cE (dd (D:=D) (os:=os) (s:=s) (x:=s.nums[i]) hD h hm) ?_ ?_ ?_;(focus (simp only[go_sem,seval,reduceCtorEq,osP,lvS];done));(first | rfl | (focus (simp only[go_sem];done))))
 simp only[go_sem,seval,reduceCtorEq,pi]
 (refine aA (dd (D:=D) (os:=os) (s:=s) (x:=s.nums[j]) hD h hm) ?_ ?_ ?_;(focus (simp only[go_sem,seval,reduceCtorEq,osP,lvS];done));(first | rfl | (focus (simp only[go_sem];done))))
 simp only[go_sem,seval,reduceCtorEq,pj,c1,c2,c3]
 (refine am [0] [] false (zd rfl) ?_ _ ?_ (nM (D:=D) (os:=os) (s:=s) hD h hm ho hi hj) ?_ ?_;(focus (simp only[go_sem,seval,reduceCtorEq,osR,lvS];done));(focus (simp only[go_sem,seval,reduceCtorEq,osR,lvS];done));(focus (first | rfl | (simp only[go_sem,seval,reduceCtorEq,osR,lvS];done))))
 simp only[go_sem,seval,reduceCtorEq,osR,lvS]
 (refine zE ?_ ?_<;>try simp only[go_sem,seval,reduceCtorEq])
theorem o5 {D os:List Int} {s:Osd} {m:Nat} {a b:Int} (hD:D.length=100) (h:OsOk s m) (hm:m≤1000) (ho:os.length≤1048576) (hf:dQ s a b=false):
  Does Tryz.prog 49 [.ptr 0 0,.agg [.d (.int a),.d (.int b)]] [osR D os s] (.d (.bool false)) [osR D os s]:=by
 have hnl:=jd h
 (refine spec_of (by kernel_rfl) Tryz.func49 dZ (fnOk (nb rfl) ?_);unfold cJ)
 simp only[osR,lvS]
 (simp only[Nat.reduceSub,Zl,zn,Nat.reduceAdd,zF];try simp only[af]);(simp only[go_sem,seval,reduceCtorEq,List.replicate])
 (refine cE (dd (D:=D) (os:=os) (s:=s) (x:=a) hD h hm) ?_ ?_ ?_;(focus (simp only[go_sem,seval,reduceCtorEq,osP,lvS];done));(first | rfl | (focus (simp only[go_sem];done))))
 simp only[go_sem,seval,reduceCtorEq]
 (refine aA (dd (D:=D) (os:=os) (s:=s) (x:=b) hD h hm) ?_ ?_ ?_;(focus (simp only[go_sem,seval,reduceCtorEq,osP,lvS];done));(first | rfl | (focus (simp only[go_sem];done))))
 by_cases ha:a∈natI s.nums
 rotate_left
 ·have c1:bB (natI s.nums) a<0:=dh.2 ha
  simp only[go_sem,seval,reduceCtorEq,c1]
  (refine zE ?_ ?_<;>try simp only[go_sem,seval,reduceCtorEq])
 have c1:¬ bB (natI s.nums) a<0:=fun e=>dh.1 e ha
 by_cases hb:b∈natI s.nums
 rotate_left
 ·have c2:bB (natI s.nums) b<0:=dh.2 hb
  simp only[go_sem,seval,reduceCtorEq,c1,c2]
  (refine zE ?_ ?_<;>try simp only[go_sem,seval,reduceCtorEq])
 have c2:¬ bB (natI s.nums) b<0:=fun e=>dh.1 e hb
 have c3:a≥b:=by
  by_cases e:a<b
  ·rw[dQ,decide_eq_true ⟨ha,hb,e⟩]at hf;cases hf
  ·omega
 simp only[go_sem,seval,reduceCtorEq,c1,c2,c3]
 (refine zE ?_ ?_<;>try simp only[go_sem,seval,reduceCtorEq])
end Go.Proofs.YtjfmckhbmdjnpaaGreat
