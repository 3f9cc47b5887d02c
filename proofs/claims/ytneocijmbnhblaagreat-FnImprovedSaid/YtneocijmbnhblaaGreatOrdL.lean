/-
 The state of an order as cells: the table of dimensions, the open labels, the tensors that are there, the next number. No condition.
-/
import Derived.Test.YtneocijmbnhblaaGreatPlO
import Derived.Test.YtneocijmbnhblaaGreatEliA
import Derived.Test.YtneocijmbnhblaaGreatCoD
set_option linter.unusedSimpArgs false
set_option linter.unusedVariables false
namespace Go.Proofs.YtneocijmbnhblaaGreat
open Go.RowKit Go.Lift Plain
def osB (T:List Int) (x y z:AV):List AV:=iv T++[x,y,z]
def osD (T:List Int) (x y z:D):List D:=dv T++[x,y,z]
section
variable {T : List Int} {x y z : AV} {a b c : D}
theorem DV (h:T.length=100):(osB T x y z).length=103:=by simp [osB,cW,h]
theorem ym (h:T.length=100):(osB T x y z)[101]? =some y:=by simp [osB,cW,h,List.getElem?_append_right]
theorem DW (h:T.length=100):(osB T x y z)[102]? =some z:=by simp [osB,cW,h,List.getElem?_append_right]
theorem qp (h:T.length=100):(osB T x y z).take 100=iv T:=by
 have:(iv T).length=100:=by simp [cW,cJ,h]
 rw[osB,List.take_left' this]
theorem vP (h:T.length=100) (u:AV):(osB T x y z).take 100++[u]++(osB T x y z).drop 101=osB T u y z:=by
 have h1:(iv T).length=100:=by simp [cW,cJ,h]
 have h2:(iv T++[x]).length=101:=by simp [cW,cJ,h]
 rw[qp h,osB,show iv T++[x,y,z]=(iv T++[x])++[y,z]by simp,List.drop_left' h2]
 simp [osB]
theorem BE (h:T.length=100) (u:AV):(osB T x y z).take 101++[u]++(osB T x y z).drop 102=osB T x u z:=by
 have h1:(iv T++[x]).length=101:=by simp [cW,cJ,h]
 have h2:(iv T++[x,y]).length=102:=by simp [cW,cJ,h]
 rw[osB,show iv T++[x,y,z]=(iv T++[x])++[y,z]by simp,List.take_left' h1,show iv T++[x]++[y,z]=(iv T++[x,y])++[z]by simp,List.drop_left' h2]
 simp [osB]
theorem BD (h:T.length=100) (u:AV):(osB T x y z).take 102++[u]++(osB T x y z).drop 103=osB T x y u:=by
 have h1:(iv T++[x,y]).length=102:=by simp [cW,cJ,h]
 have h2:(iv T++[x,y,z]).length=103:=by simp [cW,cJ,h]
 rw[osB,List.drop_eq_nil_of_le (Nat.le_of_eq h2),show iv T++[x,y,z]=(iv T++[x,y])++[z]by simp,List.take_left' h1]
 simp [osB]
theorem BH (h:T.length=100):((osB T x y z).drop 101).take 1=[y]:=by
 have h1:(iv T++[x]).length=101:=by simp [cW,cJ,h]
 rw[osB,show iv T++[x,y,z]=(iv T++[x])++[y,z]by simp,List.drop_left' h1];rfl
theorem BG (h:T.length=100):((osB T x y z).drop 102).take 1=[z]:=by
 have h1:(iv T++[x,y]).length=102:=by simp [cW,cJ,h]
 rw[osB,show iv T++[x,y,z]=(iv T++[x,y])++[z]by simp,List.drop_left' h1];rfl
theorem DG (ρ:Nat→Option Nat):rnL ρ (osB T x y z)=osB T (rn ρ x) (rn ρ y) (rn ρ z):=by
 rw[aO,osB,List.map_append, ← aO,n9];rfl
theorem BX (k e:Nat) (ls:List D):mapL (fzG k e ls) (osB T x y z)=osB T (mapA (fzG k e ls) x) (mapA (fzG k e ls) y) (mapA (fzG k e ls) z):=by
 rw[dB,osB,List.map_append, ← dB,qB];rfl
theorem lf (s:St):∀ (l m:List AV),dd s (l++m)=match dd s l,dd s m with
  | some a,some b=>some (a++b)
  | _,_=>none
 | [],m=>by
  rw[List.nil_append,dd]
  cases dd s m<;>rfl
 | x :: l,m=>by
  rw[List.cons_append]
  simp only[dd]
  rw[lf s l m]
  cases rA s x<;>cases dd s l<;>cases dd s m<;>rfl
theorem tT (s:St):∀ xs:List Int,dd s (iv xs)=some (dv xs)
 | []=>rfl
 | x :: l=>by
  have:=tT s l
  simp only[iv,dv,List.map_cons,dd,rA,exp1]at this ⊢
  rw[this]
theorem xQ (s:St):dd s (osB T (.d a) (.d b) (.d c))=some (osD T a b c):=by
 rw[osB,lf,tT];rfl
theorem FE:(osD T a b c).isEmpty=false:=by
 rw[osD];cases dv T<;>rfl
theorem DS (h:T.length=100):(osD T a b c).length=103:=by simp [osD,cJ,h]
theorem DU (h:T.length=100):(osD T a b c)[100]? =some a:=by simp [osD,cJ,h,List.getElem?_append_right]
theorem DT (h:T.length=100):(osD T a b c)[101]? =some b:=by simp [osD,cJ,h,List.getElem?_append_right]
theorem BA (h:T.length=100):(osD T a b c).take 100=dv T:=by
 have:(dv T).length=100:=by simp [cW,cJ,h]
 rw[osD,List.take_left' this]
end
attribute [go_sem] DV ym DW qp vP BE BD BH BG DG BX xQ FE DS DU DT BA
def lvD (f:Nat→List Int) (l:List Nat):List D:=l.flatMap fun (i:Nat)=>[.int (i:Int),ints (f i)]
def lvA (f:Nat→List Int) (l:List Nat):List AV:=l.flatMap fun (i:Nat)=>[.d (.int (i:Int)),.d (ints (f i))]
section
variable {f g : Nat → List Int} {l m : List Nat} {k : Nat}
theorem uk:(lvD f l).length=l.length*2:=by
 induction l with
 | nil=>rfl
 | cons x l ih=>rw[lvD,List.flatMap_cons,List.length_append, ← lvD,ih];simp;omega
theorem E1:(lvA f l).length=l.length*2:=by
 induction l with
 | nil=>rfl
 | cons x l ih=>rw[lvA,List.flatMap_cons,List.length_append, ← lvA,ih];simp;omega
theorem yy:lvA f []=[]:=nr rfl
theorem mp:∀ {l:List Nat} {k:Nat} (h:k<l.length),(lvD f l).drop (k*2)=.int l[k] :: ints (f l[k]) :: lvD f (l.drop (k+1))
 | x :: l,0,_=>by simp [lvD]
 | x :: l,k+1,h=>by
  have:=mp (l:=l) (k:=k) (by simpa using h)
  rw[lvD,List.flatMap_cons, ← lvD,show (k+1)*2=2+k*2 by omega, ← List.drop_drop]
  simpa using this
theorem pE (h:k<l.length):((lvD f l).drop (k*2)).take 2=[.int l[k],ints (f l[k])]:=by rw[mp h];rfl
theorem vY (h:k<l.length):(lvD f l)[k*2]? =some (.int l[k]):=by
 have:=congrArg (fun x=>x[0]?) (mp (f:=f) h)
 simpa using this
theorem gF (h:k<l.length):(lvD f l)[k*2+1]? =some (ints (f l[k])):=by
 have:=congrArg (fun x=>x[1]?) (mp (f:=f) h)
 simpa using this
theorem yz:lvA f (l++m)=lvA f l++lvA f m:=by simp [lvA]
theorem C0 (i:Nat):lvA f l++[.d (.int i),.d (.sl (f i).length (dv (f i)))]=lvA f (l++[i]):=by simp [lvA,ints]
theorem zV (h:∀ i∈l,f i=g i):lvA f l=lvA g l:=by
 unfold lvA
 exact ko fun x hx=>by rw[h x hx]
theorem ul:lvA f l=(lvD f l).map .d:=by
 induction l with
 | nil=>rfl
 | cons x l ih=>simp only[lvA,lvD,List.flatMap_cons,List.map_append]at ih ⊢;rw[ih];rfl
theorem rz:∀ L:List D,du (L.map .d)=some L
 | []=>rfl
 | x :: l=>by simp only[List.map_cons,du,oW,rz l]
theorem lO:du (lvA f l)=some (lvD f l):=by rw[ul,rz]
theorem DH (ρ:Nat→Option Nat):rnL ρ (lvA f l)=lvA f l:=by
 rw[aO,ul,List.map_map];exact List.map_congr_left fun x _=>rfl
theorem BY (k e:Nat) (ls:List D):mapL (fzG k e ls) (lvA f l)=lvA f l:=by
 rw[dB,ul,List.map_map];exact List.map_congr_left fun x _=>rfl
end
theorem BZ (g:AV→AV) (l m:List AV):mapL g (l++m)=mapL g l++mapL g m:=by rw[dB,dB,dB,List.map_append]
attribute [go_sem] BZ uk E1 DH BY lO C0
def lvS (s:Osd):D:=.sl s.nums.length (lvD s.lab s.nums)
theorem ew (q i:Nat):((q:Int) !=(i:Int))=(q !=i):=by rw[Bool.eq_iff_iff,bne_iff_ne,bne_iff_ne];omega
set_option maxRecDepth 100000
def osP (D os:List Int) (s:Osd):AV:=.rptr (osD D (ints os) (lvS s) (.int s.all.length)) 0
def osR (D os:List Int) (s:Osd):Option Root:=some ⟨0,false,osB D (.d (ints os)) (.d (lvS s)) (.d (.int s.all.length))⟩
theorem bq {D os:List Int} {s:Osd} {m:Nat} {x:Int} (hD:D.length=100) (h:OsOk s m) (hm:m≤1000):
  Does Tryz.prog 99 [osP D os s,.d (.int x)] [] (.d (.int (bB (natI s.nums) x))) []:=by
 have hnl:=fO h
 (refine spec_of (by kernel_rfl) Tryz.func99 iP (fnOk (nb rfl) ?_);unfold C_impl_orderState_place)
 simp only[osP,lvS]
 (simp only[Nat.reduceSub,Zl,zn,Nat.reduceAdd,zF];try simp only[ae]);(simp only[go_sem,seval,reduceCtorEq,List.replicate])
 simp(disch:=omega) only[go_sem,seval,reduceCtorEq]
 refine cZ (s.nums.length) (mkB 23 8380528) (fun k=>x∉natI (s.nums.take k)) (fun k=>[(12,.d (.int k))]) (fun k=>[]) (hi:=by simp [natI]) (h1:=by first | (simp only[go_sem,seval,reduceCtorEq,nz,na,n1];first | done | rfl) | rfl) (h2:=by first | (simp only[go_sem,seval,reduceCtorEq,nz,na,n1];first | done | rfl) | rfl) (hr:=fun k hk hi=> ?_)
 unfold L0_impl_orderState_place
 by_cases hlt:k<s.nums.length
 ·have d1:(k:Int)<s.nums.length:=by omega
  have g:=pE (f:=s.lab) hlt
  simp(disch:=omega) only[go_sem,seval,reduceCtorEq,d1,g]
  refine⟨by omega, ?_⟩
  by_cases hx:(s.nums[k]:Int)=x
  ·have c:((s.nums[k]:Int)==x)=true:=by simp [hx]
   have hp:bB (natI s.nums) x=k:=by
    have hk':k<(natI s.nums).length:=by rw[mj];exact hlt
    have:=dK hk' (by rw[jS hlt];rw[show List.take k (natI s.nums)=natI (s.nums.take k)by simp [natI]];rw[hx];exact hi)
    rwa [jS hlt,hx]at this
   simp(disch:=omega) only[go_sem,seval,reduceCtorEq,c,hp]
   (refine zE ?_ ?_<;>try simp only[go_sem,seval,reduceCtorEq])
  ·have c:((s.nums[k]:Int)==x)=false:=by simp [hx]
   simp(disch:=omega) only[go_sem,seval,reduceCtorEq,c]
   have hi':x∉natI (s.nums.take (k+1)):=by
    rw[bi hlt]
    simp only[natI,List.map_append,List.map_cons,List.map_nil,List.mem_append,List.mem_singleton]
    exact fun e=>e.elim hi (fun e=>hx e.symm)
   (refine NextI.drop (mkB 23 8380528) (by omega) (hi') (h1:= ?_) (h2:= ?_)<;>first | (simp only[go_sem,seval,reduceCtorEq,nz,na,n1];first | done | rfl) | rfl | skip)
 ·have d1:¬ (k:Int)<s.nums.length:=by omega
  have hp:bB (natI s.nums) x= -1:=gB (by rw[zt (by omega)]at hi;exact hi)
  simp(disch:=omega) only[go_sem,seval,reduceCtorEq,d1,hp]
  (refine zE ?_ ?_<;>try simp only[go_sem,seval,reduceCtorEq])
theorem cI {D os:List Int} {s:Osd} {m i j:Nat} (hD:D.length=100) (h:OsOk s m) (hm:m≤1000) (ho:os.length≤1048576) (hi:i<s.nums.length) (hj:j<s.nums.length):
  Does Tryz.prog 101 [osP D os s,.d (.int i),.d (.int j)] [] (.own 0 0 (s.res os s.nums[i] s.nums[j]).length) [some ⟨1,true,iv (s.res os s.nums[i] s.nums[j])⟩]:=by
 have hnl:=fO h
 have li:(i:Int)<s.nums.length:=by omega
 have lj:(j:Int)<s.nums.length:=by omega
 have gi:=gF (f:=s.lab) hi
 have gj:=gF (f:=s.lab) hj
 have la:=h.len s.nums[i]
 have lb:=h.len s.nums[j]
 obtain⟨hjn,hjb,hjl⟩:=h.join s.nums[i] s.nums[j]
 (refine spec_of (by kernel_rfl) Tryz.func101 fo (fnOk (nb rfl) ?_);unfold C_impl_orderState_resultLabels)
 simp only[osP,lvS]
 (simp only[Nat.reduceSub,Zl,zn,Nat.reduceAdd,zF];try simp only[ae]);(simp only[go_sem,seval,reduceCtorEq,List.replicate])
 simp(disch:=omega) only[go_sem,seval,reduceCtorEq,li,lj,gi,gj]
 (refine zD (g8 (a:=s.lab s.nums[i]) (b:=s.lab s.nums[j]) (by omega) (by omega)) ?_)
 simp only[go_sem,seval,reduceCtorEq]
 generalize hJ:aB (s.lab s.nums[i]) (s.lab s.nums[j])=J at*
 have hres:s.res os s.nums[i] s.nums[j]=J.filter (has (s.keep os s.nums[i] s.nums[j])):=by rw[Osd.res,hJ]
 rw[hres]
 (refine cN (Wk.nilE 7 1 _ _ rfl) ?_;simp only[go_sem,seval,reduceCtorEq])
 refine aH (J.length) (mkB 73 4722366482865350254080) (fun k=>[(31,.d (.int k)),(7,.own 1 0 ((J.take k).filter (has (s.keep os s.nums[i] s.nums[j]))).length)]) (fun k=>[(1,iv ((J.take k).filter (has (s.keep os s.nums[i] s.nums[j]))))]) (h1:=by first | (simp only[go_sem,seval,reduceCtorEq,nz,na,n1,List.take_zero,List.filter_nil,bv];first | done | rfl) | rfl) (h2:=by first | (simp only[go_sem,seval,reduceCtorEq,nz,na,n1,List.take_zero,List.filter_nil,bv];first | done | rfl) | rfl) (hr:=fun k hk=> ?_)
 unfold L1_impl_orderState_resultLabels
 have hfl:=eD J k (has (s.keep os s.nums[i] s.nums[j]))
 by_cases hlt:k<J.length
 ·have d1:(k:Int)<J.length:=by omega
  have g:J[k]? =some J[k]:=zg hlt
  simp(disch:=omega) only[go_sem,seval,reduceCtorEq,d1,g]
  (refine zC (fS (xs:=os) (x:=J[k]) (by omega)) ?_)
  simp(disch:=omega) only[go_sem,seval,reduceCtorEq]
  refine aH (s.nums.length) (mkB 73 73786835557349857280) (fun q=>[(46,.d (.int q)),(10,.d (.bool (ka s os s.nums[i] s.nums[j] J[k] q)))]) (fun q=>[]) (h1:=by first | (simp only[go_sem,seval,reduceCtorEq,nz,na,n1,qG];first | done | rfl) | rfl) (h2:=by first | (simp only[go_sem,seval,reduceCtorEq,nz,na,n1,qG];first | done | rfl) | rfl) (hr:=fun q hq=> ?_)
  unfold L0_impl_orderState_resultLabels
  by_cases hltq:q<s.nums.length
  ·have d2:(q:Int)<s.nums.length:=by omega
   have g2:=pE (f:=s.lab) hltq
   have hop:=nm (bR s) hi hj hltq
   have lq:=h.len s.nums[q]
   simp(disch:=omega) only[go_sem,seval,reduceCtorEq,d2,g2]
   refine⟨by omega, ?_⟩
   by_cases h1:q=i
   ·have e1:(q !=i)=false:=by simp [h1]
    have c1:=ew q i
    rw[e1]at c1
    have hn:=qH (os:=os) (a:=s.nums[i]) (b:=s.nums[j]) (l:=J[k]) hltq (by rw[hop,e1];rfl)
    simp(disch:=omega) only[go_sem,seval,reduceCtorEq,c1]
    (refine Next.drop (mkB 73 73786835557349857280) (by omega) (h1:= ?_) (h2:= ?_)<;>first | (simp only[go_sem,seval,reduceCtorEq,nz,na,n1,hn];first | done | rfl) | rfl | skip)
   ·have e1:(q !=i)=true:=by simp [h1]
    have c1:=ew q i
    rw[e1]at c1
    by_cases h2:q=j
    ·have e2:(q !=j)=false:=by simp [h2]
     have c2:=ew q j
     rw[e2]at c2
     have hn:=qH (os:=os) (a:=s.nums[i]) (b:=s.nums[j]) (l:=J[k]) hltq (by rw[hop,e1,e2];rfl)
     simp(disch:=omega) only[go_sem,seval,reduceCtorEq,c1,c2]
     (refine Next.drop (mkB 73 73786835557349857280) (by omega) (h1:= ?_) (h2:= ?_)<;>first | (simp only[go_sem,seval,reduceCtorEq,nz,na,n1,hn];first | done | rfl) | rfl | skip)
    ·have e2:(q !=j)=true:=by simp [h2]
     have c2:=ew q j
     rw[e2]at c2
     simp(disch:=omega) only[go_sem,seval,reduceCtorEq,c1,c2]
     (refine zC (fS (xs:=s.lab s.nums[q]) (x:=J[k]) (by omega)) ?_)
     cases e3:has (s.lab s.nums[q]) J[k]
     ·have hn:=qH (os:=os) (a:=s.nums[i]) (b:=s.nums[j]) (l:=J[k]) hltq (by rw[e3,Bool.and_false])
      simp(disch:=omega) only[go_sem,seval,reduceCtorEq,e3]
      (refine Next.drop (mkB 73 73786835557349857280) (by omega) (h1:= ?_) (h2:= ?_)<;>first | (simp only[go_sem,seval,reduceCtorEq,nz,na,n1,hn];first | done | rfl) | rfl | skip)
     ·have hn:=A8 (os:=os) (a:=s.nums[i]) (b:=s.nums[j]) (l:=J[k]) hltq (by rw[hop,e1,e2,e3];rfl)
      simp(disch:=omega) only[go_sem,seval,reduceCtorEq,e3]
      (refine Next.drop (mkB 73 73786835557349857280) (by omega) (h1:= ?_) (h2:= ?_)<;>first | (simp only[go_sem,seval,reduceCtorEq,nz,na,n1,hn];first | done | rfl) | rfl | skip)
  ·have d2:¬ (q:Int)<s.nums.length:=by omega
   have hall:=A9 (os:=os) (a:=s.nums[i]) (b:=s.nums[j]) (l:=J[k]) (show s.nums.length≤q by omega)
   simp(disch:=omega) only[go_sem,seval,reduceCtorEq,d2,hall]
   cases hh:has (s.keep os s.nums[i] s.nums[j]) J[k]
   ·have e:=fu (p:=has (s.keep os s.nums[i] s.nums[j])) hlt hh
    simp(disch:=omega) only[go_sem,seval,reduceCtorEq,hh]
    (refine Next.drop (mkB 73 4722366482865350254080) (by omega) (h1:= ?_) (h2:= ?_)<;>first | (simp only[go_sem,seval,reduceCtorEq,nz,na,n1,e];first | done | rfl) | rfl | skip)
   ·have e:=gQ (p:=has (s.keep os s.nums[i] s.nums[j])) hlt hh
    simp(disch:=omega) only[go_sem,seval,reduceCtorEq,hh]
    (repeat (refine And.intro (by omega) ?_))
    (refine Next.drop (mkB 73 4722366482865350254080) (by omega) (h1:= ?_) (h2:= ?_)<;>first | (simp only[go_sem,seval,reduceCtorEq,nz,na,n1,e,List.length_append];first | done | rfl) | rfl | skip)
 ·have d1:¬ (k:Int)<J.length:=by omega
  obtain rfl:k=J.length:=by omega
  simp(disch:=omega) only[go_sem,seval,reduceCtorEq,d1,List.take_length]
  (refine zE ?_ ?_<;>try simp only[go_sem,seval,reduceCtorEq])
theorem bN {D os:List Int} {s:Osd} {m i j:Nat} (hD:D.length=100) (h:OsOk s m) (hm:m≤1000) (ho:os.length≤1048576) (hi:i<s.nums.length) (hj:j<s.nums.length):
  Does Tryz.prog 100 [.ptr 0 0,.d (.int i),.d (.int j)] [osR D os s] (.agg [.d (.int s.nums[i]),.d (.int s.nums[j])]) [osR D os (s.step os s.nums[i] s.nums[j])]:=by
 have hnl:=fO h
 have hall:=h.n
 have li:(i:Int)<s.nums.length:=by omega
 have lj:(j:Int)<s.nums.length:=by omega
 have gi:=vY (f:=s.lab) hi
 have gj:=vY (f:=s.lab) hj
 (refine spec_of (by kernel_rfl) Tryz.func100 gJ (fnOk (nb rfl) ?_);unfold C_impl_orderState_contract)
 simp only[osR,lvS]
 (simp only[Nat.reduceSub,Zl,zn,Nat.reduceAdd,zF];try simp only[ae]);(simp only[go_sem,seval,reduceCtorEq,List.replicate])
 simp(disch:=omega) only[go_sem,seval,reduceCtorEq,li,lj,gi,gj]
 (refine bZ (cI (D:=D) (os:=os) (i:=i) (j:=j) hD h hm ho hi hj) ?_ ?_ ?_;(focus (simp only[go_sem,seval,reduceCtorEq,osP,lvS];done));(first | rfl | (focus (simp only[go_sem];done))))
 simp(disch:=omega) only[go_sem,seval,reduceCtorEq]
 (refine cN (Wk.nilE 9 2 _ _ rfl) ?_;simp only[go_sem,seval,reduceCtorEq])
 refine aH (s.nums.length) (mkB 76 2305825417027652608) (fun k=>[(43,.d (.int k)),(9,.own 5 0 ((s.nums.take k).filter (Osd.off s.nums[i] s.nums[j])).length)]) (fun k=>[(5,lvA s.lab ((s.nums.take k).filter (Osd.off s.nums[i] s.nums[j])))]) (h1:=by first | (simp only[go_sem,seval,reduceCtorEq,nz,na,n1,List.take_zero,List.filter_nil,yy];first | done | rfl) | rfl) (h2:=by first | (simp only[go_sem,seval,reduceCtorEq,nz,na,n1,List.take_zero,List.filter_nil,yy];first | done | rfl) | rfl) (hr:=fun k hk=> ?_)
 unfold L0_impl_orderState_contract
 have hfl:=eD s.nums k (Osd.off s.nums[i] s.nums[j])
 by_cases hlt:k<s.nums.length
 ·have d1:(k:Int)<s.nums.length:=by omega
  have g:=pE (f:=s.lab) hlt
  have hop:=nm (bR s) hi hj hlt
  simp(disch:=omega) only[go_sem,seval,reduceCtorEq,d1,g]
  refine⟨by omega, ?_⟩
  by_cases h1:k=i
  ·have e1:(k !=i)=false:=by simp [h1]
   have c1:=ew k i
   rw[e1]at c1
   have e:=fu (p:=Osd.off s.nums[i] s.nums[j]) hlt (by rw[hop,e1];rfl)
   simp(disch:=omega) only[go_sem,seval,reduceCtorEq,c1]
   (refine Next.drop (mkB 76 2305825417027652608) (by omega) (h1:= ?_) (h2:= ?_)<;>first | (simp only[go_sem,seval,reduceCtorEq,nz,na,n1,e];first | done | rfl) | rfl | skip)
  ·have e1:(k !=i)=true:=by simp [h1]
   have c1:=ew k i
   rw[e1]at c1
   by_cases h2:k=j
   ·have e2:(k !=j)=false:=by simp [h2]
    have c2:=ew k j
    rw[e2]at c2
    have e:=fu (p:=Osd.off s.nums[i] s.nums[j]) hlt (by rw[hop,e1,e2];rfl)
    simp(disch:=omega) only[go_sem,seval,reduceCtorEq,c1,c2]
    (refine Next.drop (mkB 76 2305825417027652608) (by omega) (h1:= ?_) (h2:= ?_)<;>first | (simp only[go_sem,seval,reduceCtorEq,nz,na,n1,e];first | done | rfl) | rfl | skip)
   ·have e2:(k !=j)=true:=by simp [h2]
    have c2:=ew k j
    rw[e2]at c2
    have e:=gQ (p:=Osd.off s.nums[i] s.nums[j]) hlt (by rw[hop,e1,e2];rfl)
    simp(disch:=omega) only[go_sem,seval,reduceCtorEq,c1,c2]
    (repeat (refine And.intro (by omega) ?_))
    (refine Next.drop (mkB 76 2305825417027652608) (by omega) (h1:= ?_) (h2:= ?_)<;>first | (simp only[go_sem,seval,reduceCtorEq,nz,na,n1,e,List.length_append];first | done | rfl) | rfl | skip)
 ·have d1:¬ (k:Int)<s.nums.length:=by omega
  obtain rfl:k=s.nums.length:=by omega
  simp(disch:=omega) only[go_sem,seval,reduceCtorEq,d1,List.take_length]
  have hfl2:=List.length_filter_le (Osd.off s.nums[i] s.nums[j]) s.nums
  refine⟨by omega, ?_⟩
  have hns:=d8 (os:=os) (a:=s.nums[i]) (b:=s.nums[j]) h
  have hrow:lvA s.lab (s.nums.filter (Osd.off s.nums[i] s.nums[j]))++[.d (.int s.all.length),.d (.sl (s.res os s.nums[i] s.nums[j]).length (dv (s.res os s.nums[i] s.nums[j])))]=lvA (s.step os s.nums[i] s.nums[j]).lab (s.step os s.nums[i] s.nums[j]).nums:=by
   rw[hns,yz,zV (f:=(s.step os s.nums[i] s.nums[j]).lab) (g:=s.lab) (fun q hq=>jX h (by have:=em.1 (List.mem_filter.1 hq).1;omega)),hall]
   simp only[lvA,List.flatMap_cons,List.flatMap_nil,List.append_nil,dU h,ints]
  have hlen:(s.nums.filter (Osd.off s.nums[i] s.nums[j])).length+1=(s.step os s.nums[i] s.nums[j]).nums.length:=by rw[hns];simp
  have hal:(s.all.length:Int)+1=((s.step os s.nums[i] s.nums[j]).all.length:Int):=by simp [Osd.step]
  (refine FnEnd.wk (Wk.freeze 3 (nb rfl) rfl (bI) rfl rfl) ?_);(simp only[go_sem,seval,reduceCtorEq,hrow,hlen,hal])
  generalize s.step os s.nums[i] s.nums[j]=s' at*
  have htk:List.take (s'.nums.length*2) (lvD s'.lab s'.nums)=lvD s'.lab s'.nums:=zt (by rw[uk];exact Nat.le_refl _)
  have htd:List.take s.nums.length s.nums=s.nums:=List.take_length
  (refine FnEnd.wk (Wk.freeze 5 (nb rfl) rfl (lO) rfl rfl) ?_);(simp only[go_sem,seval,reduceCtorEq,htk])
  (refine zE ?_ ?_<;>try simp only[go_sem,seval,reduceCtorEq])
theorem cH {D os:List Int} {s:Osd} {m:Nat} {a b:Int} (hD:D.length=100) (h:OsOk s m) (hm:m≤1000) (ho:os.length≤1048576) (hf:dD s a b=true):
  Does Tryz.prog 51 [.ptr 0 0,.agg [.d (.int a),.d (.int b)]] [osR D os s] (.d (.bool true)) [osR D os (s.step os a.toNat b.toNat)]:=by
 obtain⟨x,y,rfl,rfl,hx,hy,hxy⟩:=kj hf
 have hnl:=fO h
 obtain⟨i,hi,hix⟩:=List.mem_iff_getElem.1 hx
 obtain⟨j,hj,hjy⟩:=List.mem_iff_getElem.1 hy
 have hpl:∀ (q:Nat) (hq:q<s.nums.length),bB (natI s.nums) s.nums[q]=q:=fun q hq=>by
  have hq':q<(natI s.nums).length:=by rw[mj];exact hq
  have:=dK hq' (eW (j9 (bR s)) hq')
  rwa [jS hq]at this
 have pi:=hpl i hi
 have pj:=hpl j hj
 rw[hix]at pi
 rw[hjy]at pj
 have c1:¬ (i:Int)<0:=by omega
 have c2:¬ (j:Int)<0:=by omega
 have c3:¬ (x:Int)≥y:=by omega
 subst hix hjy
 simp only[Int.toNat_natCast]
 (refine spec_of (by kernel_rfl) Tryz.func51 ep (fnOk (nb rfl) ?_);unfold C_impl_orderState_follow)
 simp only[osR,lvS]
 (simp only[Nat.reduceSub,Zl,zn,Nat.reduceAdd,zF];try simp only[ae]);(simp only[go_sem,seval,reduceCtorEq,List.replicate])
 (refine bZ (bq (D:=D) (os:=os) (s:=s) (x:=s.nums[i]) hD h hm) ?_ ?_ ?_;(focus (simp only[go_sem,seval,reduceCtorEq,osP,lvS];done));(first | rfl | (focus (simp only[go_sem];done))))
 simp only[go_sem,seval,reduceCtorEq,pi]
 (refine aZ (bq (D:=D) (os:=os) (s:=s) (x:=s.nums[j]) hD h hm) ?_ ?_ ?_;(focus (simp only[go_sem,seval,reduceCtorEq,osP,lvS];done));(first | rfl | (focus (simp only[go_sem];done))))
 simp only[go_sem,seval,reduceCtorEq,pj,c1,c2,c3]
 (refine ai [0] [] false (zd rfl) ?_ _ ?_ (bN (D:=D) (os:=os) (s:=s) hD h hm ho hi hj) ?_ ?_;(focus (simp only[go_sem,seval,reduceCtorEq,osR,lvS];done));(focus (simp only[go_sem,seval,reduceCtorEq,osR,lvS];done));(focus (first | rfl | (simp only[go_sem,seval,reduceCtorEq,osR,lvS];done))))
 simp only[go_sem,seval,reduceCtorEq,osR,lvS]
 (refine zE ?_ ?_<;>try simp only[go_sem,seval,reduceCtorEq])
theorem jP {D os:List Int} {s:Osd} {m:Nat} {a b:Int} (hD:D.length=100) (h:OsOk s m) (hm:m≤1000) (ho:os.length≤1048576) (hf:dD s a b=false):
  Does Tryz.prog 51 [.ptr 0 0,.agg [.d (.int a),.d (.int b)]] [osR D os s] (.d (.bool false)) [osR D os s]:=by
 have hnl:=fO h
 (refine spec_of (by kernel_rfl) Tryz.func51 ep (fnOk (nb rfl) ?_);unfold C_impl_orderState_follow)
 simp only[osR,lvS]
 (simp only[Nat.reduceSub,Zl,zn,Nat.reduceAdd,zF];try simp only[ae]);(simp only[go_sem,seval,reduceCtorEq,List.replicate])
 (refine bZ (bq (D:=D) (os:=os) (s:=s) (x:=a) hD h hm) ?_ ?_ ?_;(focus (simp only[go_sem,seval,reduceCtorEq,osP,lvS];done));(first | rfl | (focus (simp only[go_sem];done))))
 simp only[go_sem,seval,reduceCtorEq]
 (refine aZ (bq (D:=D) (os:=os) (s:=s) (x:=b) hD h hm) ?_ ?_ ?_;(focus (simp only[go_sem,seval,reduceCtorEq,osP,lvS];done));(first | rfl | (focus (simp only[go_sem];done))))
 by_cases ha:a∈natI s.nums
 rotate_left
 ·have c1:bB (natI s.nums) a<0:=dR.2 ha
  simp only[go_sem,seval,reduceCtorEq,c1]
  (refine zE ?_ ?_<;>try simp only[go_sem,seval,reduceCtorEq])
 have c1:¬ bB (natI s.nums) a<0:=fun e=>dR.1 e ha
 by_cases hb:b∈natI s.nums
 rotate_left
 ·have c2:bB (natI s.nums) b<0:=dR.2 hb
  simp only[go_sem,seval,reduceCtorEq,c1,c2]
  (refine zE ?_ ?_<;>try simp only[go_sem,seval,reduceCtorEq])
 have c2:¬ bB (natI s.nums) b<0:=fun e=>dR.1 e hb
 have c3:a≥b:=by
  by_cases e:a<b
  ·rw[dD,decide_eq_true ⟨ha,hb,e⟩]at hf;cases hf
  ·omega
 simp only[go_sem,seval,reduceCtorEq,c1,c2,c3]
 (refine zE ?_ ?_<;>try simp only[go_sem,seval,reduceCtorEq])
end Go.Proofs.YtneocijmbnhblaaGreat
