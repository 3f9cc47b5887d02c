/-
 Contracts: products of elements, scaled tensors. No condition.
-/
import Derived.Test.YtjfmckhbmdjnpaaGreatCoB
import Derived.Test.YtjfmckhbmdjnpaaGreatLift28
set_option linter.unusedSimpArgs false
set_option linter.unusedVariables false
namespace Go.Proofs.YtjfmckhbmdjnpaaGreat
open Go.RowKit Go.Lift Plain
set_option maxRecDepth 100000
theorem tf {xs ys:List Int} {off k:Nat} (h:off+ys.length≤xs.length) (hk:k<ys.length):(putE xs off ys)[off+k]? =some (ys.getD k 0):=by
 rw[kz h,if_pos (by omega),show off+k-off=k by omega,zg hk,ab hk]
theorem tX {xs ys:List Int} {off k:Nat} {v:Int} (h:off+ys.length≤xs.length) (hk:k<ys.length):
  (putE xs off ys).take (off+k)++[v]++(putE xs off ys).drop (off+k+1)=putE xs off (ys.set k v):=by
 rw[cD (by rw[bQ h];omega)]
 refine List.ext_getElem? fun i=> ?_
 rw[List.getElem?_set,kz h,kz (by simpa using h),bQ h]
 by_cases h1:off+k=i
 ·subst h1
  rw[if_pos rfl,if_pos (by omega),if_pos (by simp;omega),show off+k-off=k by omega,List.getElem?_set,if_pos rfl,if_pos hk]
 ·rw[if_neg h1]
  by_cases h2:off≤i∧i<off+ys.length
  ·rw[if_pos h2,if_pos (by simpa using h2),List.getElem?_set,if_neg (by omega)]
  ·rw[if_neg h2,if_neg (by simpa using h2)]
theorem E9 {xs:List Int} {off n:Nat} (h:off+n≤xs.length):xs.take off++List.replicate n 0++xs.drop (off+n)=putE xs off (List.replicate n 0):=by
 simp [putE]
theorem iW {kk pp nn:Int} {xs x y:List Int} {off wd:Nat} (hr:ae ⟨kk,pp,nn⟩=true) (hk:kk=7∨kk=8) (hw:ah ⟨kk,pp,nn⟩=wd) (hx:fits ⟨kk,pp,nn⟩ x) (hy:fits ⟨kk,pp,nn⟩ y) (lx:x.length=wd) (ly:y.length=wd) (ho:off+wd≤xs.length) (hl:xs.length≤1099511627776):
  Does Tryz.prog 115 [bm kk pp nn,.own 0 off wd,.d (ints x),.d (ints y)] [some ⟨1,false,iv xs⟩] (.tup []) [some ⟨1,false,iv (putE xs off (cR ⟨kk,pp,nn⟩ x y (List.replicate wd 0) wd))⟩]:=by
 have hwb:=ci hr
 have hk':kk=2∨kk=7∨kk=8:=by omega
 obtain⟨hlx,hp1,hp2⟩:=br (r:=⟨kk,pp,nn⟩) hr hx hk'
 obtain⟨hly,_⟩:=br (r:=⟨kk,pp,nn⟩) hr hy hk'
 simp only at hp1 hp2
 have hz:=mP (p:=pp) (by omega) wd
 have hT:=kD (r:=⟨kk,pp,nn⟩) ⟨hp1,hp2⟩ hz hlx hly
 have hrl:(List.replicate wd (0:Int)).length=wd:=by simp
 have hrep:=E9 ho
 (refine spec_of (by kernel_rfl) Tryz.func115 lw (fnOk (nb rfl) ?_);unfold eP)
 (simp only[Nat.reduceSub,Zl,zn,Nat.reduceAdd,zF];try simp only[af]);(simp only[go_sem,seval,reduceCtorEq,List.replicate])
 simp(disch:=omega) only[go_sem,seval,reduceCtorEq,hrep,ho]
 refine aN (wd) (mkB 76 75557863725914323357440) (fun k=>[(15,.d (.int k))]) (fun k=>[(0,iv (putE xs off (cR ⟨kk,pp,nn⟩ x y (List.replicate wd 0) k)))]) (h1:=by first | (simp only[go_sem,seval,reduceCtorEq,nz,na,n1,lx,cR];first | done | rfl) | rfl) (h2:=by first | (simp only[go_sem,seval,reduceCtorEq,nz,na,n1,lx,cR];first | done | rfl) | rfl) (hr:=fun k hk=> ?_)
 unfold ep
 obtain⟨hT1,hT2,hT3⟩:=hT k
 rw[hrl]at hT3
 by_cases hlt:k<wd
 ·have h1:(k:Int)<x.length:=by omega
  have hx1:x[k]? =some (x.getD k 0):=by rw[ab (by omega)];exact zg (by omega)
  simp(disch:=omega) only[go_sem,seval,reduceCtorEq,h1]
  have hR:=fF (r:=⟨kk,pp,nn⟩) (i:=k) ⟨hp1,hp2⟩ hT2 (hlx.at (by omega) k) hly
  refine aN (wd) (mkB 76 37778931862957159616000) (fun j=>[(20,.d (.int j))]) (fun j=>[(0,iv (putE xs off (bH ⟨kk,pp,nn⟩ y k (x.getD k 0) (cR ⟨kk,pp,nn⟩ x y (List.replicate wd 0) k) j)))]) (h1:=by first | (simp only[go_sem,seval,reduceCtorEq,nz,na,n1,ly,bH];first | done | rfl) | rfl) (h2:=by first | (simp only[go_sem,seval,reduceCtorEq,nz,na,n1,ly,bH];first | done | rfl) | rfl) (hr:=fun j hj=> ?_)
  unfold eu
  obtain⟨hR1,hR2,hR3⟩:=hR j
  rw[hT3]at hR3
  have hRn:=(hR (j+1)).1
  rw[kE,hR1,xz,hR3]at hRn
  by_cases hltj:j<wd
  ·have h2:(j:Int)<y.length:=by omega
   have hy1:y[j]? =some (y.getD j 0):=by rw[ab (by omega)];exact zg (by omega)
   have ha:=hlx.at (show 0<pp by omega) k
   have hb:=hly.at (show 0<pp by omega) j
   simp only at ha hb
   have hab:=xj ha hb hp2
   have hm:=tmb hab.1 (show 0<pp by omega)
   have hp0:pp≠0:=by omega
   generalize bH ⟨kk,pp,nn⟩ y k (x.getD k 0) (cR ⟨kk,pp,nn⟩ x y (List.replicate wd 0) k) j=cur at*
   generalize hae:x.getD k 0=a at*
   generalize hbe:y.getD j 0=b at*
   have hc:=hR2.at (show 0<pp by omega) (k+j)
   have hc4:=hR2.at (show 0<pp by omega) (k+j-4)
   simp only at hc hc4 hRn
   have e1:(k:Int)+j=(k+j:Nat):=by push_cast;rfl
   by_cases h3:k+j<wd
   ·have h3':((k+j:Nat):Int)<wd:=by omega
    rw[if_pos h3]at hRn
    have hg:=tf (xs:=xs) (ys:=cur) (off:=off) (k:=k+j) (by omega) (by omega)
    have hq:=fun v=>tX (xs:=xs) (ys:=cur) (off:=off) (k:=k+j) (v:=v) (by omega) (by omega)
    have hb2:=tmb (show 0≤cur.getD (k+j) 0+(a*b).tmod pp by omega) (show 0<pp by omega)
    simp(disch:=omega) only[go_sem,seval,reduceCtorEq,h2,hx1,hy1,hp0,e1,h3',hg,ne_eq,not_false_eq_true]
    refine⟨by omega,by rw[bQ (by omega)];omega, ?_⟩
    (refine Next.drop (mkB 76 37778931862957159616000) (by omega) (h1:= ?_) (h2:= ?_)<;>first | (simp only[go_sem,seval,reduceCtorEq,nz,na,n1,hq, ← hRn];first | done | rfl) | rfl | skip)
   ·rw[if_neg h3]at hRn
    have h3':¬ ((k+j:Nat):Int)<wd:=by omega
    rcases hk' with rfl | rfl | rfl
    ·omega
    ·rw[if_neg (by decide)]at hRn
     simp(disch:=omega) only[go_sem,seval,reduceCtorEq,h2,hx1,hy1,hp0,e1,h3',ne_eq,not_false_eq_true]
     refine⟨by omega, ?_⟩
     (refine Next.drop (mkB 76 37778931862957159616000) (by omega) (h1:= ?_) (h2:= ?_)<;>first | (simp only[go_sem,seval,reduceCtorEq,nz,na,n1, ← hRn];first | done | rfl) | rfl | skip)
    ·rw[if_pos rfl]at hRn
     have hw4:wd=4:=by simp [ah]at hw;omega
     have e4:((k+j:Nat):Int)-4=(k+j-4:Nat):=by omega
     have h5:((k+j-4:Nat):Int)<wd:=by omega
     have hg:=tf (xs:=xs) (ys:=cur) (off:=off) (k:=k+j-4) (by omega) (by omega)
     have hq:=fun v=>tX (xs:=xs) (ys:=cur) (off:=off) (k:=k+j-4) (v:=v) (by omega) (by omega)
     simp(disch:=omega) only[go_sem,seval,reduceCtorEq,h2,hx1,hy1,hp0,e1,e4,h3',h5,hg,ne_eq,not_false_eq_true]
     refine⟨by omega,by rw[bQ (by omega)];omega, ?_⟩
     (refine Next.drop (mkB 76 37778931862957159616000) (by omega) (h1:= ?_) (h2:= ?_)<;>first | (simp only[go_sem,seval,reduceCtorEq,nz,na,n1,hq, ← hRn];first | done | rfl) | rfl | skip)
  ·have h2:¬ (j:Int)<y.length:=by omega
   have hjw:j=y.length:=by omega
   simp(disch:=omega) only[go_sem,seval,reduceCtorEq,h2]
   (refine Next.drop (mkB 76 75557863725914323357440) (by omega) (h1:= ?_) (h2:= ?_)<;>first | (simp only[go_sem,seval,reduceCtorEq,nz,na,n1,cR,hjw];first | done | rfl) | rfl | skip)
 ·have h1:¬ (k:Int)<x.length:=by omega
  have hkw:k=wd:=by omega
  subst hkw
  simp(disch:=omega) only[go_sem,seval,reduceCtorEq,h1]
  (refine zE ?_ ?_<;>try simp only[go_sem,seval,reduceCtorEq])
theorem Cm {kk pp nn:Int} {xs x y:List Int} {off wd:Nat} (hr:ae ⟨kk,pp,nn⟩=true) (hw:ah ⟨kk,pp,nn⟩=wd) (hx:fits ⟨kk,pp,nn⟩ x) (hy:fits ⟨kk,pp,nn⟩ y) (lx:x.length=wd) (ly:y.length=wd) (ho:off+wd≤xs.length) (hl:xs.length≤1099511627776):
  Does Tryz.prog 80 [bm kk pp nn,.own 0 off wd,.d (ints x),.d (ints y)] [some ⟨1,false,iv xs⟩] (.tup []) [some ⟨1,false,iv (putE xs off (mulE ⟨kk,pp,nn⟩ x y))⟩]:=by
 have hwb:=ci hr
 have htb:=dE hr
 have x0:=hx 0 (by omega)
 have y0:=hy 0 (by omega)
 have hmm:0≤x.getD 0 0*y.getD 0 0:=Int.mul_nonneg x0.1 y0.1
 have hmb:x.getD 0 0*y.getD 0 0≤x.getD 0 0*1048576:=Int.mul_le_mul_of_nonneg_left (by omega) x0.1
 have gx:x[0]? =some (x.getD 0 0):=by rw[ab (by omega)];exact zg (by omega)
 have gy:y[0]? =some (y.getD 0 0):=by rw[ab (by omega)];exact zg (by omega)
 have hput:∀ v:Int,xs.take off++[v]++xs.drop (off+1)=putE xs off [v]:=fun v=>rfl
 have c1:(0:Int)<wd:=by omega
 have c2:(0:Int)<x.length:=by omega
 have c3:(0:Int)<y.length:=by omega
 have c4:off+1≤xs.length:=by omega
 have hand:∀ a b:Int,IntKind.i64.wrap (BitVec.ofInt 64 a&&& BitVec.ofInt 64 b).toNat=andI a b:=fun _ _=>rfl
 have hpoly:kk=7∨kk=8→mulE ⟨kk,pp,nn⟩ x y=cR ⟨kk,pp,nn⟩ x y (List.replicate wd 0) wd:=fun h=>by
  unfold mulE
  rw[if_neg (by simp only;omega),if_neg (by simp only;omega),if_neg (by simp only;omega),if_neg (by simp only;omega),if_neg (by simp only;omega),lx]
 have hlow:=fun h=>(br (r:=⟨kk,pp,nn⟩) hr hx h).2
 simp only at hlow
 generalize hae:x.getD 0 0=a at*
 generalize hbe:y.getD 0 0=b at*
 (refine spec_of (by kernel_rfl) Tryz.func80 uA (fnOk (nb rfl) ?_);unfold nY)
 (simp only[Nat.reduceSub,Zl,zn,Nat.reduceAdd,zF];try simp only[af]);(simp only[go_sem,seval,reduceCtorEq,List.replicate])
 rcases aL hr with h | h | h | h | h | h | h | h<;>simp only at h<;>obtain⟨rfl,h⟩:=h
 ·have he:mulE ⟨1,pp,nn⟩ x y=[min a b]:=by simp only[mulE,hae,hbe];rfl
  simp(disch:=omega) only[go_sem,seval,reduceCtorEq,gx,gy,c1,c2,c3,c4]
  (refine zE ?_ ?_<;>try simp only[go_sem,seval,reduceCtorEq])
  rw[hput,he]
 ·have he:mulE ⟨2,pp,nn⟩ x y=[(a*b).tmod pp]:=by simp only[mulE,hae,hbe];rfl
  have hp:=hlow (.inl rfl)
  have hp0:pp≠0:=by omega
  simp(disch:=omega) only[go_sem,seval,reduceCtorEq,gx,gy,c1,c2,c3,c4,hp0,ne_eq,not_false_eq_true]
  (refine zE ?_ ?_<;>try simp only[go_sem,seval,reduceCtorEq])
  rw[hput,he]
 ·have he:mulE ⟨3,pp,nn⟩ x y=[min (a*b) pp]:=by simp only[mulE,hae,hbe];rfl
  simp(disch:=omega) only[go_sem,seval,reduceCtorEq,gx,gy,c1,c2,c3,c4]
  (refine zE ?_ ?_<;>try simp only[go_sem,seval,reduceCtorEq])
  rw[hput,he]
 ·have he:mulE ⟨4,pp,nn⟩ x y=[min (a+b) pp]:=by simp only[mulE,hae,hbe];rfl
  simp(disch:=omega) only[go_sem,seval,reduceCtorEq,gx,gy,c1,c2,c3,c4]
  (refine zE ?_ ?_<;>try simp only[go_sem,seval,reduceCtorEq])
  rw[hput,he]
 ·have he:mulE ⟨5,pp,nn⟩ x y=[min a b]:=by simp only[mulE,hae,hbe];rfl
  simp(disch:=omega) only[go_sem,seval,reduceCtorEq,gx,gy,c1,c2,c3,c4]
  (refine zE ?_ ?_<;>try simp only[go_sem,seval,reduceCtorEq])
  rw[hput,he]
 ·have he:mulE ⟨6,pp,nn⟩ x y=[andI a b]:=by simp only[mulE,hae,hbe];rfl
  simp(disch:=omega) only[go_sem,seval,reduceCtorEq,gx,gy,c1,c2,c3,c4]
  (refine zE ?_ ?_<;>try simp only[go_sem,seval,reduceCtorEq])
  rw[hput,hand,he]
 ·have hpl:∀ ys:List Int,ys.length=wd→(putE xs off ys).length=xs.length:=fun ys h=>bQ (by omega)
  have hml:=(eZ hr hw hx hy lx ly).1
  rw[hpoly (.inl rfl)]at hml
  simp(disch:=omega) only[go_sem,seval,reduceCtorEq]
  (refine eD [0] false (iW hr (.inl rfl) hw hx hy lx ly ho hl) (zd rfl) ?_ ?_ ?_ ?_ (zd rfl) ?_;(focus (simp only[go_sem,seval,reduceCtorEq,hpl _ hml];done));(focus (simp only[go_sem,seval,reduceCtorEq];done));(focus (simp only[go_sem,seval,reduceCtorEq,hpl _ hml];done));(focus (simp only[go_sem,seval,reduceCtorEq];done)))
  simp only[go_sem,seval,reduceCtorEq]
  (refine zE ?_ ?_<;>try simp only[go_sem,seval,reduceCtorEq])
  rw[hpoly (.inl rfl)]
 ·have hpl:∀ ys:List Int,ys.length=wd→(putE xs off ys).length=xs.length:=fun ys h=>bQ (by omega)
  have hml:=(eZ hr hw hx hy lx ly).1
  rw[hpoly (.inr rfl)]at hml
  simp(disch:=omega) only[go_sem,seval,reduceCtorEq]
  (refine eD [0] false (iW hr (.inr rfl) hw hx hy lx ly ho hl) (zd rfl) ?_ ?_ ?_ ?_ (zd rfl) ?_;(focus (simp only[go_sem,seval,reduceCtorEq,hpl _ hml];done));(focus (simp only[go_sem,seval,reduceCtorEq];done));(focus (simp only[go_sem,seval,reduceCtorEq,hpl _ hml];done));(focus (simp only[go_sem,seval,reduceCtorEq];done)))
  simp only[go_sem,seval,reduceCtorEq]
  (refine zE ?_ ?_<;>try simp only[go_sem,seval,reduceCtorEq])
  rw[hpoly (.inr rfl)]
set_option maxHeartbeats 1000000 in
theorem EE {kk pp nn:Int} {x y:List Int} {wd:Nat} (hr:ae ⟨kk,pp,nn⟩=true) (hw:ah ⟨kk,pp,nn⟩=wd) (hx:fits ⟨kk,pp,nn⟩ x) (hy:fits ⟨kk,pp,nn⟩ y) (lx:x.length=wd) (ly:y.length=wd):
  Does Tryz.prog 124 [bm kk pp nn,.d (ints x),.d (ints y)] [] (.own 0 0 wd) [some ⟨1,true,iv (mulE ⟨kk,pp,nn⟩ x y)⟩]:=by
 have hwb:=ci hr
 have htb:=dE hr
 have x0:=hx 0 (by omega)
 have y0:=hy 0 (by omega)
 have hmm:0≤x.getD 0 0*y.getD 0 0:=Int.mul_nonneg x0.1 y0.1
 have hmb:x.getD 0 0*y.getD 0 0≤x.getD 0 0*1048576:=Int.mul_le_mul_of_nonneg_left (by omega) x0.1
 have gx:x[0]? =some (x.getD 0 0):=by rw[ab (by omega)];exact zg (by omega)
 have gy:y[0]? =some (y.getD 0 0):=by rw[ab (by omega)];exact zg (by omega)
 have c2:(0:Int)<x.length:=by omega
 have c3:(0:Int)<y.length:=by omega
 have hand:∀ a b:Int,IntKind.i64.wrap (BitVec.ofInt 64 a&&& BitVec.ofInt 64 b).toNat=andI a b:=fun _ _=>rfl
 have hlow:=fun h=>(br (r:=⟨kk,pp,nn⟩) hr hx h).2
 simp only at hlow
 have h1wd:¬ (kk=7∨kk=8)→wd=1:=fun h=>by have:=nc (r:=⟨kk,pp,nn⟩) hr h;omega
 (refine spec_of (by kernel_rfl) Tryz.func124 vA (fnOk (nb rfl) ?_);unfold oY)
 (simp only[Nat.reduceSub,Zl,zn,Nat.reduceAdd,zF];try simp only[af]);(simp only[go_sem,seval,reduceCtorEq,List.replicate])
 refine⟨by omega, ?_⟩
 by_cases h78:kk=7∨kk=8
 rotate_left
 ·have h1:=h1wd h78
  subst h1
  generalize hae:x.getD 0 0=a at*
  generalize hbe:y.getD 0 0=b at*
  have hdr:List.drop 1 (List.replicate x.length (0:Int))=[]:=by rw[lx];rfl
  rcases aL hr with h | h | h | h | h | h | h | h<;>simp only at h<;>obtain⟨rfl,h⟩:=h
  ·have he:mulE ⟨1,pp,nn⟩ x y=[andI a b]:=by simp only[top,if_true]at x0 y0;rw[HA x0 y0];simp only[mulE,hae,hbe];rfl
   simp(disch:=omega) only[go_sem,seval,reduceCtorEq,gx,gy,c2,c3,hdr]
   refine⟨by simp [lx], ?_⟩
   (refine zE ?_ ?_<;>try simp only[go_sem,seval,reduceCtorEq])
   ·rw[lx]
   ·rw[he];rfl
  ·have he:mulE ⟨2,pp,nn⟩ x y=[(a*b).tmod pp]:=by simp only[mulE,hae,hbe];rfl
   have hp:=hlow (.inl rfl)
   have hp0:pp≠0:=by omega
   simp(disch:=omega) only[go_sem,seval,reduceCtorEq,gx,gy,c2,c3,hdr,hp0,ne_eq,not_false_eq_true]
   refine⟨by simp [lx], ?_⟩
   (refine zE ?_ ?_<;>try simp only[go_sem,seval,reduceCtorEq])
   ·rw[lx]
   ·rw[he];rfl
  ·have he:mulE ⟨3,pp,nn⟩ x y=[min (a*b) pp]:=by simp only[mulE,hae,hbe];rfl
   simp(disch:=omega) only[go_sem,seval,reduceCtorEq,gx,gy,c2,c3,hdr]
   refine⟨by simp [lx], ?_⟩
   (refine zE ?_ ?_<;>try simp only[go_sem,seval,reduceCtorEq])
   ·rw[lx]
   ·rw[he];rfl
  ·have he:mulE ⟨4,pp,nn⟩ x y=[min (a+b) pp]:=by simp only[mulE,hae,hbe];rfl
   simp(disch:=omega) only[go_sem,seval,reduceCtorEq,gx,gy,c2,c3,hdr]
   refine⟨by simp [lx], ?_⟩
   (refine zE ?_ ?_<;>try simp only[go_sem,seval,reduceCtorEq])
   ·rw[lx]
   ·rw[he];rfl
  ·have he:mulE ⟨5,pp,nn⟩ x y=[min a b]:=by simp only[mulE,hae,hbe];rfl
   simp(disch:=omega) only[go_sem,seval,reduceCtorEq,gx,gy,c2,c3,hdr]
   refine⟨by simp [lx], ?_⟩
   (refine zE ?_ ?_<;>try simp only[go_sem,seval,reduceCtorEq])
   ·rw[lx]
   ·rw[he];rfl
  ·have he:mulE ⟨6,pp,nn⟩ x y=[andI a b]:=by simp only[mulE,hae,hbe];rfl
   simp(disch:=omega) only[go_sem,seval,reduceCtorEq,gx,gy,c2,c3,hdr]
   refine⟨by simp [lx], ?_⟩
   (refine zE ?_ ?_<;>try simp only[go_sem,seval,reduceCtorEq])
   ·rw[lx]
   ·rw[he];rfl
  ·exact absurd (.inl rfl) h78
  ·exact absurd (.inr rfl) h78
 ·have he:mulE ⟨kk,pp,nn⟩ x y=cR ⟨kk,pp,nn⟩ x y (List.replicate wd 0) wd:=by
   unfold mulE
   rw[if_neg (by simp only;omega),if_neg (by simp only;omega),if_neg (by simp only;omega),if_neg (by simp only;omega),if_neg (by simp only;omega),lx]
  have hk':kk=2∨kk=7∨kk=8:=by omega
  obtain⟨hlx,hp1,hp2⟩:=br (r:=⟨kk,pp,nn⟩) hr hx hk'
  obtain⟨hly,_⟩:=br (r:=⟨kk,pp,nn⟩) hr hy hk'
  simp only at hp1 hp2
  have hz:=mP (p:=pp) (by omega) wd
  have hT:=kD (r:=⟨kk,pp,nn⟩) ⟨hp1,hp2⟩ hz hlx hly
  have hrl:(List.replicate wd (0:Int)).length=wd:=by simp
  have k1:(kk==1)=false:=by simp;omega
  have k2:(kk==2)=false:=by simp;omega
  have k3:(kk==3)=false:=by simp;omega
  have k4:(kk==4)=false:=by simp;omega
  have k5:(kk==5)=false:=by simp;omega
  have k6:(kk==6)=false:=by simp;omega
  simp(disch:=omega) only[go_sem,seval,reduceCtorEq,k1,k2,k3,k4,k5,k6]
  refine aN (wd) (mkB 151 38685626227668133589552896) (fun k=>[(19,.d (.int k))]) (fun k=>[(1,iv (cR ⟨kk,pp,nn⟩ x y (List.replicate wd 0) k))]) (h1:=by first | (simp only[go_sem,seval,reduceCtorEq,nz,na,n1,lx,cR];first | done | rfl) | rfl) (h2:=by first | (simp only[go_sem,seval,reduceCtorEq,nz,na,n1,lx,cR];first | done | rfl) | rfl) (hr:=fun k hk=> ?_)
  unfold nu
  obtain⟨hT1,hT2,hT3⟩:=hT k
  rw[hrl]at hT3
  by_cases hlt:k<wd
  ·have h1:(k:Int)<x.length:=by omega
   have hx1:x[k]? =some (x.getD k 0):=by rw[ab (by omega)];exact zg (by omega)
   simp(disch:=omega) only[go_sem,seval,reduceCtorEq,h1,hx1]
   have hR:=fF (r:=⟨kk,pp,nn⟩) (i:=k) ⟨hp1,hp2⟩ hT2 (hlx.at (by omega) k) hly
   refine aN (wd) (mkB 151 19342813113834066661084160) (fun j=>[(26,.d (.int j))]) (fun j=>[(1,iv (bH ⟨kk,pp,nn⟩ y k (x.getD k 0) (cR ⟨kk,pp,nn⟩ x y (List.replicate wd 0) k) j))]) (h1:=by first | (simp only[go_sem,seval,reduceCtorEq,nz,na,n1,ly,bH];first | done | rfl) | rfl) (h2:=by first | (simp only[go_sem,seval,reduceCtorEq,nz,na,n1,ly,bH];first | done | rfl) | rfl) (hr:=fun j hj=> ?_)
   unfold nC
   obtain⟨hR1,hR2,hR3⟩:=hR j
   rw[hT3]at hR3
   by_cases hltj:j<wd
   ·have h2:(j:Int)<y.length:=by omega
    have hy1:y[j]? =some (y.getD j 0):=by rw[ab (by omega)];exact zg (by omega)
    have ha:=hlx.at (show 0<pp by omega) k
    have hb:=hly.at (show 0<pp by omega) j
    simp only at ha hb
    have hab:=xj ha hb hp2
    have hpa:0≤(pp-x.getD k 0)*y.getD j 0:=Int.mul_nonneg (by omega) hb.1
    have hpb:(pp-x.getD k 0)*y.getD j 0≤(pp-x.getD k 0)*1000003:=Int.mul_le_mul_of_nonneg_left (by omega) (by omega)
    have hp0:pp≠0:=by omega
    have hRn:bH ⟨kk,pp,nn⟩ y k (x.getD k 0) (cR ⟨kk,pp,nn⟩ x y (List.replicate wd 0) k) (j+1)=qg ⟨kk,pp,nn⟩ (bH ⟨kk,pp,nn⟩ y k (x.getD k 0) (cR ⟨kk,pp,nn⟩ x y (List.replicate wd 0) k) j) k j (x.getD k 0) (y.getD j 0):=rfl
    rw[qg,hR3]at hRn
    generalize bH ⟨kk,pp,nn⟩ y k (x.getD k 0) (cR ⟨kk,pp,nn⟩ x y (List.replicate wd 0) k) j=cur at*
    generalize hae:x.getD k 0=a at*
    generalize hbe:y.getD j 0=b at*
    have hc:=hR2.at (show 0<pp by omega) (k+j)
    have hc4:=hR2.at (show 0<pp by omega) (k+j-4)
    simp only at hc hc4 hRn
    have e1:(k:Int)+j=(k+j:Nat):=by push_cast;rfl
    by_cases h3:k+j<wd
    ·have h3':((k+j:Nat):Int)<wd:=by omega
     have h3'':((k+j:Nat):Int)<x.length:=by omega
     rw[if_pos h3]at hRn
     have hg:cur[k+j]? =some (cur.getD (k+j) 0):=by rw[ab (by omega)];exact zg (by omega)
     have hq:=fun v=>cD (xs:=cur) (n:=k+j) (x:=v) (by omega)
     simp(disch:=omega) only[go_sem,seval,reduceCtorEq,h2,hx1,hy1,hp0,e1,h3',h3'',hg,hae,ne_eq,not_false_eq_true]
     refine⟨by omega, ?_⟩
     (refine Next.drop (mkB 151 19342813113834066661084160) (by omega) (h1:= ?_) (h2:= ?_)<;>first | (simp only[go_sem,seval,reduceCtorEq,nz,na,n1,hq, ← hRn];first | done | rfl) | rfl | skip)
    ·rw[if_neg h3]at hRn
     have h3':¬ ((k+j:Nat):Int)<x.length:=by omega
     rcases hk' with rfl | rfl | rfl
     ·omega
     ·rw[if_neg (by decide)]at hRn
      simp(disch:=omega) only[go_sem,seval,reduceCtorEq,h2,hx1,hy1,hp0,e1,h3',hae,ne_eq,not_false_eq_true]
      (refine Next.drop (mkB 151 19342813113834066661084160) (by omega) (h1:= ?_) (h2:= ?_)<;>first | (simp only[go_sem,seval,reduceCtorEq,nz,na,n1, ← hRn];first | done | rfl) | rfl | skip)
     ·rw[if_pos rfl]at hRn
      have hw4:wd=4:=by simp [ah]at hw;omega
      have e4:((k+j:Nat):Int)-4=(k+j-4:Nat):=by omega
      have h5:((k+j-4:Nat):Int)<x.length:=by omega
      have hg:cur[k+j-4]? =some (cur.getD (k+j-4) 0):=by rw[ab (by omega)];exact zg (by omega)
      have hq:=fun v=>cD (xs:=cur) (n:=k+j-4) (x:=v) (by omega)
      simp(disch:=omega) only[go_sem,seval,reduceCtorEq,h2,hx1,hy1,hp0,e1,e4,h3',h5,hg,hae,ne_eq,not_false_eq_true]
      refine⟨by omega, ?_⟩
      (refine Next.drop (mkB 151 19342813113834066661084160) (by omega) (h1:= ?_) (h2:= ?_)<;>first | (simp only[go_sem,seval,reduceCtorEq,nz,na,n1,hq, ← hRn];first | done | rfl) | rfl | skip)
   ·have h2:¬ (j:Int)<y.length:=by omega
    have hjw:j=y.length:=by omega
    simp(disch:=omega) only[go_sem,seval,reduceCtorEq,h2]
    (refine Next.drop (mkB 151 38685626227668133589552896) (by omega) (h1:= ?_) (h2:= ?_)<;>first | (simp only[go_sem,seval,reduceCtorEq,nz,na,n1,cR,hjw];first | done | rfl) | rfl | skip)
  ·have h1:¬ (k:Int)<x.length:=by omega
   have hkw:k=wd:=by omega
   subst hkw
   simp(disch:=omega) only[go_sem,seval,reduceCtorEq,h1]
   (refine zE ?_ ?_<;>try simp only[go_sem,seval,reduceCtorEq])
   all_goals simp only[he,lx]
set_option maxRecDepth 100000
theorem A7 {x wd l d m:Nat} {ca cb cc:List Int} {kk pp nn:Int} (hw:ah ⟨kk,pp,nn⟩=(wd:Int)) (h1:1≤wd∧wd≤6) (hx:x*wd+wd≤m) (hx2:x≤1099511627776) (h:m≤1099511627776):
  Does Tryz.prog 81 [bm kk pp nn,.agg [.own 0 0 l,.own 1 0 d,.own 2 0 m],.d (.int x)] [some ⟨1,false,iv ca⟩,some ⟨1,false,iv cb⟩,some ⟨1,false,iv cc⟩] (.own 2 (x*wd) wd) [some ⟨1,false,iv ca⟩,some ⟨1,false,iv cb⟩,some ⟨1,false,iv cc⟩]:=by
 (refine spec_of (by kernel_rfl) Tryz.func81 mU (fnOk (nb rfl) ?_);unfold it)
 (simp only[Nat.reduceSub,Zl,zn,Nat.reduceAdd,zF];try simp only[af]);(simp only[go_sem,seval,reduceCtorEq,List.replicate])
 (refine zC (eX kk pp nn) ?_)
 have e1:(x:Int)*wd=(x*wd:Nat):=by push_cast;rfl
 have e2:((x:Int)+1)*wd=(x*wd+wd:Nat):=by push_cast;rw[Int.add_mul,Int.one_mul]
 have e3:(((x*wd+wd:Nat):Int)-(x*wd:Nat)).toNat=wd:=by omega
 have c1:((x*wd:Nat):Int)<(x*wd+wd:Nat):=by omega
 simp(disch:=omega) only[go_sem,seval,reduceCtorEq,hw,e1,e2,e3,c1,or_true]
 refine⟨⟨by omega,by omega⟩, ?_⟩
 (refine zE ?_ ?_<;>try simp only[go_sem,seval,reduceCtorEq])
theorem wq {x wd l d m:Nat} {kk pp nn:Int} {ca cb cc ys:List Int} (hl:l=ca.length) (hd:d=cb.length) (hm:m=cc.length) (hw:ah ⟨kk,pp,nn⟩=(wd:Int)) (hy:ys.length=wd) (h1:1≤wd∧wd≤6) (hx:x*wd+wd≤m) (hx2:x≤1099511627776) (h:m≤1099511627776):
  Does Tryz.prog 96 [bm kk pp nn,.agg [.own 0 0 l,.own 1 0 d,.own 2 0 m],.d (.int x),.d (ints ys)] [some ⟨1,false,iv ca⟩,some ⟨1,false,iv cb⟩,some ⟨1,false,iv cc⟩] (.tup []) [some ⟨1,false,iv ca⟩,some ⟨1,false,iv cb⟩,some ⟨1,false,iv (putE cc (x*wd) ys)⟩]:=by
 subst hl hd hm
 exact ED (t:=⟨ca,cb,cc⟩) hw hy h1 hx hx2 h
theorem gW {r:Rg} {xs:List Int} (h:fits r xs) (a b:Nat):fits r ((xs.drop a).take b):=by
 intro k hk
 have hk':k<b∧k<xs.length-a:=by simpa [Nat.lt_min]using hk
 have:=h (a+k) (by omega)
 rw[ab hk]
 simp only[List.getElem_take,List.getElem_drop]
 rwa [ab (by omega)]at this
theorem kC {i n wd:Nat} (h:i<n):i*wd+wd≤n*wd:=by
 have:(i+1)*wd≤n*wd:=Nat.mul_le_mul_right wd h
 rw[Nat.add_mul,Nat.one_mul]at this
 exact this
theorem dX {r:Rg} {t:Ten} (h:aD r t.labels t.dims t.data=true):∃ wd n:Nat,ah r=wd∧aa t.dims=n∧1≤wd∧wd≤6∧1≤n∧n≤4096∧t.data.length=n*wd∧fits r t.data∧ae r=true∧axOk t.labels t.dims:=by
 obtain⟨f1,f2,f3,f4,f5,f6⟩:=cF h
 have hw:=ci f1
 refine⟨(ah r).toNat,(aa t.dims).toNat,by omega,by omega,by omega,by omega,by omega,by omega, ?_, ?_,f1,f2⟩
 ·have:(t.data.length:Int)=((aa t.dims).toNat*(ah r).toNat:Nat):=by
   rw[f6];push_cast;rw[Int.toNat_of_nonneg (by omega),Int.toNat_of_nonneg (by omega)]
  omega
 ·simp only[aD,Bool.and_eq_true,m4,decide_eq_true_eq]at h
  exact h.2
end Go.Proofs.YtjfmckhbmdjnpaaGreat
