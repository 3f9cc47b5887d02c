/-
 Contracts: pairs, seeds, random orders. No condition.
-/
import Derived.Test.YtneocijmbnhblaaGreatPlO
import Derived.Test.YtneocijmbnhblaaGreatConM
import Derived.Test.YtneocijmbnhblaaGreatOrdT
set_option linter.unusedSimpArgs false
set_option linter.unusedVariables false
namespace Go.Proofs.YtneocijmbnhblaaGreat
open Go.RowKit Go.Lift Plain
set_option maxRecDepth 100000
theorem uz (l:List (Nat × Nat)) (a b:Nat):iv (aW l)++[.d (.int (a:Int)),.d (.int (b:Int))]=iv (aW (l++[(a,b)])):=by rw[← xF];simp [iv]
def jy (x:Int):Int:=IntKind.i64.wrap ((BitVec.ofInt 64 x&&& 2147483647#64).toNat:Nat)
def bA (x:Int):Int:=jy (1103515245*jy x+12345)
theorem qA (x:Int):0≤jy x∧jy x≤2147483647:=by
 unfold jy
 have h:(BitVec.ofInt 64 x&&& 2147483647#64).toNat≤2147483647:=by
  rw[BitVec.toNat_and]
  exact Nat.le_trans Nat.and_le_right (by decide)
 generalize (BitVec.ofInt 64 x&&& 2147483647#64).toNat=n at*
 rw[IntKind.wrap_i64]
 omega
theorem oN (x:Int):Does Tryz.prog 49 [.d (.int x)] [] (.d (.int (bA x))) []:=by
 have h1:=qA x
 have e1:∀ y,IntKind.i64.wrap ((BitVec.ofInt 64 y&&& 2147483647#64).toNat:Nat)=jy y:=fun _=>rfl
 (refine spec_of (by kernel_rfl) Tryz.func49 ph (fnOk (nb rfl) ?_);unfold C_impl_NextSeed)
 (simp only[Nat.reduceSub,Zl,zn,Nat.reduceAdd,zF];try simp only[ae]);(simp only[go_sem,seval,reduceCtorEq,List.replicate])
 simp(disch:=omega) only[go_sem,seval,reduceCtorEq,e1,bA]
 (refine zE ?_ ?_<;>try simp only[go_sem,seval,reduceCtorEq])
structure Rnd where
 s:Osd
 seed:Int
 ps:List (Nat × Nat)
def g6 (os:List Int) (r:Rnd):Rnd:=
 let x:=bA r.seed
 let p:=(prs r.s.nums).getD ((x.toNat / 65536) % (prs r.s.nums).length) (0,0)
 ⟨r.s.step os p.1 p.2,x,r.ps++[p]⟩
def be (os:List Int) (r:Rnd):Nat→Rnd
 | 0=>r
 | k+1=>g6 os (be os r k)
theorem yp {l:List Nat} (hn:l.Nodup) {a b:Nat} (ha:a∈l) (hb:b∈l) (hab:a≠b):(l.filter (Osd.off a b)).length+2=l.length:=by
 have e:l.filter (Osd.off a b)=(l.erase a).erase b:=by
  rw[List.Nodup.erase_eq_filter hn,List.Nodup.erase_eq_filter (hn.filter _),List.filter_filter]
  refine List.filter_congr fun x _=> ?_
  unfold Osd.off
  rw[Bool.and_comm]
 have h1:=List.length_erase_of_mem ha
 have h2:=List.length_erase_of_mem (show b∈l.erase a from (List.Nodup.mem_erase_iff hn).2 ⟨hab.symm,hb⟩)
 have h3:=List.length_pos_of_mem ha
 have h4:=List.length_pos_of_mem (show b∈l.erase a from (List.Nodup.mem_erase_iff hn).2 ⟨hab.symm,hb⟩)
 rw[e]
 omega
theorem Bu:∀ {l:List Nat} {p:Nat × Nat},l.Nodup→p∈prs l→p.1≠p.2
 | x :: l,p,h,hp=>by
  rw[List.nodup_cons]at h
  simp only[prs,List.mem_append,List.mem_map]at hp
  rcases hp with ⟨y,hy,rfl⟩ | hp
  ·exact fun e=>h.1 (by simp only at e;rw[e];exact hy)
  ·exact Bu h.2 hp
structure RndOk (os:List Int) (r:Rnd) (m q:Nat):Prop where
 ok:OsOk r.s m
 n:r.s.nums.length=q
theorem sC {os:List Int} {s:Osd} {m q:Nat} {p:Nat × Nat} (h:OsOk s m) (hn:s.nums.length=q+2) (hp:p∈prs s.nums):(s.step os p.1 p.2).nums.length=q+1:=by
 have h1:=pD hp
 have h2:=yp (bR s) h1.1 h1.2 (Bu (bR s) hp)
 rw[d8 h,List.length_append,List.length_singleton]
 omega
theorem ui {l:List Nat} {q:Nat} (h:l.length=q+2):0<(prs l).length:=by
 rw[vL (by omega),h]
 have:(q+2)*(q+2-1)=(q+1)*q+2*(q+1):=by
  rw[show q+2-1=q+1 by omega,show q+2=(q+1)+1 by omega,Nat.add_mul,Nat.mul_add];omega
 rw[this]
 omega
theorem qd {r:Rnd} {q:Nat} (h:r.s.nums.length=q+2) (x:Int):∃ c:Nat,∃ hc:c<(prs r.s.nums).length,(x.toNat / 65536) % (prs r.s.nums).length=c∧(prs r.s.nums).getD c (0,0)=(prs r.s.nums)[c]∧(prs r.s.nums)[c]∈prs r.s.nums:=by
 have hp:=ui h
 refine⟨_,Nat.mod_lt _ hp,rfl, ?_,List.getElem_mem _⟩
 rw[zq,zg (Nat.mod_lt _ hp)];rfl
theorem x7 {os:List Int} {r:Rnd} {m q:Nat} (h:RndOk os r m (q+2)):RndOk os (g6 os r) (m+1) (q+1):=by
 obtain⟨c,hc,e1,e2,e3⟩:=qd h.n (bA r.seed)
 refine⟨h.ok.step _ _ _, ?_⟩
 simp only[g6,e1,e2]
 exact sC h.ok h.n e3
theorem qe {os:List Int} {r:Rnd} {m q:Nat} (h:RndOk os r m (q+1)):∀ k,k≤q→RndOk os (be os r k) (m+k) (q+1-k)
 | 0,_=>h
 | k+1,hk=>by
  have ih:=qe h k (by omega)
  rw[show q+1-k=(q-(k+1))+2 by omega]at ih
  have:=x7 ih
  rw[show q+1-(k+1)=q-(k+1)+1 by omega]
  exact this
theorem jK (os:List Int) (r:Rnd):∀ k,(be os r k).ps.length=r.ps.length+k
 | 0=>rfl
 | k+1=>by rw[be,g6,List.length_append,jK os r k];rfl
theorem lU (a b:Nat):(a:Int).tdiv (b:Int)=((a / b:Nat):Int):=rfl
theorem vg (a b:Nat):(a:Int).tmod (b:Int)=((a % b:Nat):Int):=rfl
theorem rJ {N:Net} {T os:List Int} {x:Int} {r0:Rnd} {m q:Nat} (hD:T.length=100) (h:RndOk os r0 m (q+1)) (hm:m+q≤1000) (ho:os.length≤1048576) (hx:r0.seed=x) (hp:r0.ps=[]):
  Does Tryz.prog 52 [.ptr 0 0,.d (.int x)] [osR T os r0.s] (.tup [.own 1 0 q,.d (.int (be os r0 q).seed)]) [osR T os (be os r0 q).s,some ⟨2,true,iv (aW (be os r0 q).ps)⟩]:=by
 (refine spec_of (by kernel_rfl) Tryz.func52 lD (fnOk (nb rfl) ?_);unfold C_impl_randomSteps)
 simp only[osR,lvS]
 (simp only[Nat.reduceSub,Zl,zn,Nat.reduceAdd,zF];try simp only[ae]);(simp only[go_sem,seval,reduceCtorEq,List.replicate])
 (refine cN (Wk.nilE 6 2 _ _ rfl) ?_;simp only[go_sem,seval,reduceCtorEq])
 have hz1:be os r0 0=r0:=rfl
 have hz4:aW r0.ps=[]:=by rw[hp];rfl
 refine aH (q) (mkB 57 36028797018963840) (fun k=>[(1,.d (.int (be os r0 k).seed)),(6,.own 1 0 k)]) (fun k=>[(0,osB T (.d (ints os)) (.d (lvS (be os r0 k).s)) (.d (.int (be os r0 k).s.all.length))),(1,iv (aW (be os r0 k).ps))]) (h1:=by first | (simp only[go_sem,seval,reduceCtorEq,nz,na,n1,hz1,hx,hz4,bv,lvS];first | done | rfl) | rfl) (h2:=by first | (simp only[go_sem,seval,reduceCtorEq,nz,na,n1,hz1,hx,hz4,bv,lvS];first | done | rfl) | rfl) (hr:=fun k hk=> ?_)
 unfold L1_impl_randomSteps
 have hpsl:=jK os r0 k
 rw[hp,zn,Nat.zero_add]at hpsl
 have hfl:=fr (be os r0 k).ps
 have hR:=qe h k hk
 have hn:=hR.n
 have hal:=hR.ok.n
 by_cases hlt:k<q
 ·have d1':(be os r0 k).s.nums.length>1:=by omega
  rw[show q+1-k=(q-k-1)+2 by omega]at hR
  obtain⟨c,hc,e1,e2,e3⟩:=qd hR.n (bA (be os r0 k).seed)
  have hnx:be os r0 (k+1)=⟨(be os r0 k).s.step os (prs (be os r0 k).s.nums)[c].1 (prs (be os r0 k).s.nums)[c].2,bA (be os r0 k).seed,(be os r0 k).ps++[(prs (be os r0 k).s.nums)[c]]⟩:=by
   rw[be,g6]
   simp only[e1,e2]
  have hxb:=qA (1103515245*jy (be os r0 k).seed+12345)
  rw[show jy (1103515245*jy (be os r0 k).seed+12345)=bA (be os r0 k).seed from rfl]at hxb
  generalize hr:be os r0 k=r at*
  obtain⟨xn,hxn⟩:∃ xn:Nat,bA r.seed=xn:=⟨(bA r.seed).toNat,by omega⟩
  rw[hxn,Int.toNat_natCast]at e1
  have hMn:=hR.n
  obtain⟨M,hM⟩:∃ M,r.s.nums.length=M:=⟨_,rfl⟩
  have hhalf:=vL (l:=r.s.nums) (by omega)
  rw[hM]at hhalf
  have hM1:((M:Int)*((M:Int)-1))=((M*(M-1):Nat):Int):=by
   have hM2:1≤M:=by omega
   rw[Int.natCast_mul,Int.natCast_sub hM2];rfl
  have hMb:M*(M-1)≤1001*1000:=Nat.mul_le_mul (by omega) (by omega)
  have t1:(xn:Int).tdiv 65536=((xn / 65536:Nat):Int):=lU xn 65536
  have t5:((M*(M-1):Nat):Int).tdiv 2=((prs r.s.nums).length:Int):=by rw[hhalf];exact lU _ 2
  have t2:((xn / 65536:Nat):Int).tmod ((prs r.s.nums).length:Int)=(c:Int):=by rw[vg,e1]
  have t3:((prs r.s.nums).length:Int)≠0:=by omega
  have d1:(M:Int)>1:=by omega
  simp(disch:=omega) only[go_sem,seval,reduceCtorEq,lvS,hM,d1]
  (refine zC (oN r.seed) ?_)
  simp(disch:=omega) only[go_sem,seval,reduceCtorEq,hxn,hM,t1,hM1,t5,t2]
  refine⟨t3, ?_⟩
  have hpl:=me r.s.nums
  rw[hM]at hpl
  have hc0:cRow M 0=0:=rfl
  refine cZ (M-1) (mkB 57 35182224605184) (fun i=>cRow M i≤c) (fun i=>[(8,.d (.int ((c:Int)-cRow M i))),(9,.d (.int i))]) (fun i=>[]) (hi:=by omega) (h1:=by first | (simp only[go_sem,seval,reduceCtorEq,nz,na,n1,hc0,Int.natCast_zero,Int.sub_zero];first | done | rfl) | rfl) (h2:=by first | (simp only[go_sem,seval,reduceCtorEq,nz,na,n1,hc0,Int.natCast_zero,Int.sub_zero];first | done | rfl) | rfl) (hr:=fun i hi hii=> ?_)
  unfold L0_impl_randomSteps
  have hsucc:cRow M (i+1)=cRow M i+(M-1-i):=rfl
  by_cases hge:(c:Int)-cRow M i≥(M:Int)-1-i
  ·have hi1:i<M-1:=by
    rcases Nat.lt_or_ge i (M-1)with h | h
    ·exact h
    ·have:i=M-1:=by omega
     rw[this]at hii
     omega
   have hq1:(c:Int)-cRow M i-(M-1-i)=c-cRow M (i+1):=by rw[hsucc];push_cast;omega
   have hI:cRow M (i+1)≤c:=by rw[hsucc];omega
   simp(disch:=omega) only[go_sem,seval,reduceCtorEq,hge]
   (refine NextI.drop (mkB 57 35182224605184) (by omega) (hI) (h1:= ?_) (h2:= ?_)<;>first | (simp only[go_sem,seval,reduceCtorEq,nz,na,n1,hq1];first | done | rfl) | rfl | skip)
  ·have hi1:i<M-1:=by omega
   obtain⟨j,hj⟩:∃ j:Nat,j=i+1+(c-cRow M i):=⟨_,rfl⟩
   have hjM:j<r.s.nums.length:=by omega
   have hiM:i<r.s.nums.length:=by omega
   have hrow:=uh r.s.nums i (c-cRow M i) hiM (by omega)
   have hce:cRow r.s.nums.length i+(c-cRow M i)=c:=by rw[hM];omega
   rw[hce,zg hc]at hrow
   have hp1:r.s.nums[i]=(prs r.s.nums)[c].1:=by rw[Option.some.inj hrow]
   have hp2:r.s.nums[j]=(prs r.s.nums)[c].2:=by
    have:(prs r.s.nums)[c].2=r.s.nums[i+1+(c-cRow M i)]:=by rw[Option.some.inj hrow]
    rw[this]
    congr 1
   have hct:=bN (D:=T) (os:=os) (s:=r.s) hD hR.ok (by omega) ho hiM hjM
   rw[hp1,hp2]at hct
   have hnx1:=congrArg Rnd.s hnx
   have hnx2:=congrArg Rnd.seed hnx
   have hnx3:=congrArg Rnd.ps hnx
   simp only at hnx1 hnx2 hnx3
   rw[← hnx1]at hct
   generalize hp:(prs r.s.nums)[c]=p at*
   have hrw:=uz r.ps p.1 p.2
   have hj2:(i:Int)+1+(c-cRow M i)=j:=by omega
   simp(disch:=omega) only[go_sem,seval,reduceCtorEq,hge,hj2]
   (refine ai [0] [] false (zd rfl) ?_ _ ?_ (hct) ?_ ?_;(focus (simp only[go_sem,seval,reduceCtorEq,osR,lvS,hM];done));(focus (simp only[go_sem,seval,reduceCtorEq,osR,lvS,hM];done));(focus (first | rfl | (simp only[go_sem,seval,reduceCtorEq,osR,lvS,hM];done))))
   simp(disch:=omega) only[go_sem,seval,reduceCtorEq,osR,lvS]
   (repeat (refine And.intro (by omega) ?_))
   simp only[hrw]
   (refine Next.drop (mkB 57 36028797018963840) (by omega) (h1:= ?_) (h2:= ?_)<;>first | (simp only[go_sem,seval,reduceCtorEq,nz,na,n1,hnx2,hnx3,hxn,lvS];first | done | rfl) | rfl | skip)
 ·have d1:¬ ((be os r0 k).s.nums.length:Int)>1:=by omega
  obtain rfl:k=q:=by omega
  simp(disch:=omega) only[go_sem,seval,reduceCtorEq,d1,lvS]
  (refine zE ?_ ?_<;>try simp only[go_sem,seval,reduceCtorEq])
set_option maxRecDepth 100000
def cE (g:Nat × Nat→Int) (P:List (Nat × Nat)):Nat→Nat × Nat
 | 0=>P.getD 0 (0,0)
 | k+1=>if g (P.getD k (0,0))<g (cE g P k) then P.getD k (0,0) else cE g P k
theorem ol {g:Nat × Nat→Int} {P:List (Nat × Nat)} (h:0<P.length):∀ k,k≤P.length→cE g P k∈P
 | 0,_=>by rw[cE,zq,zg h];exact List.getElem_mem h
 | k+1,hk=>by
  rw[cE]
  split
  ·rw[zq,zg (show k<P.length by omega)];exact List.getElem_mem _
  ·exact ol h k (by omega)
theorem tX {g:Nat × Nat→Int} {P:List (Nat × Nat)} {f:Nat × Nat→Nat × Nat} (h:0<P.length):∀ k,k≤P.length→cE g (P.map f) k=f (cE (fun p=>g (f p)) P k)
 | 0,_=>by simp [cE,zq,h]
 | k+1,hk=>by
  have e:(P.map f).getD k (0,0)=f (P.getD k (0,0)):=by simp [zq,show k<P.length by omega]
  rw[cE,cE,tX h k (by omega),e]
  split
  ·rfl
  ·rfl
theorem yh (f:Nat→Nat):∀ l:List Nat,prs (l.map f)=(prs l).map fun p=>(f p.1,f p.2)
 | []=>rfl
 | x :: l=>by simp [prs,yh f l]
theorem Bt (l:List Nat):prs l=(prs (List.range l.length)).map fun p=>(l.getD p.1 0,l.getD p.2 0):=by
 rw[← yh (fun i=>l.getD i 0)]
 congr 1
 refine List.ext_getElem (by simp) fun i h1 h2=> ?_
 simp [zq,h1]
def gain (T os:List Int) (s:Osd) (p:Nat × Nat):Int:=capP T (s.res os p.1 p.2)-capP T (s.lab p.1)-capP T (s.lab p.2)
def grdP (T os:List Int) (s:Osd):Nat × Nat:=cE (gain T os s) (prs s.nums) (prs s.nums).length
structure Grd where
 s:Osd
 ps:List (Nat × Nat)
def bJ (T os:List Int) (r:Grd):Nat→Grd
 | 0=>r
 | k+1=>⟨(bJ T os r k).s.step os (grdP T os (bJ T os r k).s).1 (grdP T os (bJ T os r k).s).2,(bJ T os r k).ps++[grdP T os (bJ T os r k).s]⟩
structure GrdOk (T:List Int) (s:Osd) (m q:Nat):Prop where
 ok:OsOk s m
 n:s.nums.length=q
 t:OsT T s
theorem wn {T os:List Int} {s:Osd} {q:Nat} (h:s.nums.length=q+2):grdP T os s∈prs s.nums:=ol (ui h) _ (Nat.le_refl _)
theorem rb {T os:List Int} {r:Grd} {m q:Nat} (h:GrdOk T r.s m (q+1)):∀ k,k≤q→GrdOk T (bJ T os r k).s (m+k) (q+1-k)
 | 0,_=>h
 | k+1,hk=>by
  have ih:=rb (os:=os) h k (by omega)
  have hn:=ih.n
  rw[show q+1-k=(q-(k+1))+2 by omega]at hn
  refine⟨ih.ok.step _ _ _, ?_,OsT.step ih.ok ih.t⟩
  have:=sC (os:=os) ih.ok hn (wn (T:=T) (os:=os) hn)
  rw[show q+1-(k+1)=q-(k+1)+1 by omega]
  exact this
theorem kh (T os:List Int) (r:Grd):∀ k,(bJ T os r k).ps.length=r.ps.length+k
 | 0=>rfl
 | k+1=>by rw[bJ,List.length_append,kh T os r k];rfl
set_option maxRecDepth 100000
theorem AB {T os:List Int} {s:Osd} (h:0<(prs (List.range s.nums.length)).length) (c:Nat) (hc:c≤(prs (List.range s.nums.length)).length):
  cE (gain T os s) (prs s.nums) c=(fun p:Nat × Nat=>(s.nums.getD p.1 0,s.nums.getD p.2 0)) (cE (fun p=>gain T os s (s.nums.getD p.1 0,s.nums.getD p.2 0)) (prs (List.range s.nums.length)) c):=by
 rw[Bt s.nums]
 exact tX h c hc
def da (G:Nat × Nat→Int) (P:List (Nat × Nat)) (c:Nat):Int × Int × Int:=if c=0 then (-1, -1,0) else ((cE G P (c)).1,(cE G P c).2,G (cE G P c))
theorem w9 {G:Nat × Nat→Int} {P:List (Nat × Nat)} (h:0<P.length):da G P 1=(((P[0]).1:Int),((P[0]).2:Int),G P[0]):=by
 have e:P.getD 0 (0,0)=P[0]:=by rw[zq,zg h];rfl
 rw[da,if_neg (by omega)]
 have e1:cE G P 1=P[0]:=by
  rw[cE,cE,e]
  split<;>rfl
 rw[e1]
theorem xr {G:Nat × Nat→Int} {P:List (Nat × Nat)} {c:Nat} (h:c<P.length) (h0:0<c):da G P (c+1)=if G P[c]<(da G P c).2.2 then (((P[c]).1:Int),((P[c]).2:Int),G P[c]) else da G P c:=by
 have e:P.getD c (0,0)=P[c]:=by rw[zq,zg h];rfl
 have e1:cE G P (c+1)=if G P[c]<G (cE G P c) then P[c] else cE G P c:=by rw[cE,e]
 have a1:da G P (c+1)=(((cE G P (c+1)).1:Int),((cE G P (c+1)).2:Int),G (cE G P (c+1))):=by unfold da;exact if_neg (by omega)
 have a2:da G P c=(((cE G P c).1:Int),((cE G P c).2:Int),G (cE G P c)):=by unfold da;exact if_neg (by omega)
 rw[a1,a2,e1]
 split<;>rfl
theorem tf {G:Nat × Nat→Int} {P:List (Nat × Nat)} {c:Nat}:((da G P c).1<0)↔c=0:=by
 unfold da
 split
 ·simp;assumption
 ·simp;omega
theorem DC {M i q:Nat} (hi:i<M) (hj:i+1+q<M):(prs (List.range M))[cRow M i+q]? =some (i,i+1+q):=by
 have h:=uh (List.range M) i q (by simpa using hi) (by simpa using hj)
 simpa using h
set_option maxRecDepth 100000
def walk (m:Nat) (F:List Int) (k:Nat) (out:List (Nat × Nat)):List (Nat × Nat) × Nat:=
 if h:stA F (k-m)<k∧stB F (k-m)<k∧m≤k then
  ((walk m F (stB F (k-m)) (walk m F (stA F (k-m)) out).1).1++[(min (walk m F (stA F (k-m)) out).2 (walk m F (stB F (k-m)) (walk m F (stA F (k-m)) out).1).2,max (walk m F (stA F (k-m)) out).2 (walk m F (stB F (k-m)) (walk m F (stA F (k-m)) out).1).2)],
   m+(walk m F (stB F (k-m)) (walk m F (stA F (k-m)) out).1).1.length)
 else (out,k)
termination_by k
decreasing_by all_goals omega
def StOk (m n:Nat) (F:List Int):Prop:=∀ j,j<n→stA F j<m+j∧stB F j<m+j∧F.getD (j*2) 0=stA F j∧F.getD (j*2+1) 0=stB F j
section
variable {m n : Nat} {F : List Int}
theorem dO {k:Nat} (h:k<m) (out:List (Nat × Nat)):walk m F k out=(out,k):=by rw[walk,dif_neg (by omega)]
theorem f7 (h:StOk m n F) {j:Nat} (hj:j<n) (out:List (Nat × Nat)):walk m F (m+j) out=
  ((walk m F (stB F j) (walk m F (stA F j) out).1).1++[(min (walk m F (stA F j) out).2 (walk m F (stB F j) (walk m F (stA F j) out).1).2,max (walk m F (stA F j) out).2 (walk m F (stB F j) (walk m F (stA F j) out).1).2)],
   m+(walk m F (stB F j) (walk m F (stA F j) out).1).1.length):=by
 have:=h j hj
 rw[walk,show m+j-m=j by omega,dif_pos (by omega)]
theorem v7 (h:StOk m n F):∀ k,k<m+n→∀ out,(walk m F k out).1.length+1≤out.length+2 ^ (k+1-m)∧(walk m F k out).2≤max k (m+out.length+2 ^ (k+1-m)):=by
 intro k
 induction k using Nat.strongRecOn with
 | _ k ih=>
  intro hk out
  rcases Nat.lt_or_ge k m with hkm | hkm
  ·rw[dO hkm,show k+1-m=0 by omega]
   exact⟨by simp,by simp;omega⟩
  ·obtain⟨j,rfl⟩:∃ j,k=m+j:=⟨k-m,by omega⟩
   have hj:j<n:=by omega
   have hs:=h j hj
   rw[f7 h hj]
   have h1:=ih (stA F j) hs.1 (by omega) out
   have h2:=ih (stB F j) hs.2.1 (by omega) (walk m F (stA F j) out).1
   have p1:2 ^ (stA F j+1-m)≤2 ^ j:=Nat.pow_le_pow_right (by omega) (by omega)
   have p2:2 ^ (stB F j+1-m)≤2 ^ j:=Nat.pow_le_pow_right (by omega) (by omega)
   have p3:2 ^ (m+j+1-m)=2*2 ^ j:=by rw[show m+j+1-m=j+1 by omega,Nat.pow_succ,Nat.mul_comm]
   rw[p3]
   simp only[List.length_append,List.length_singleton]
   omega
end
theorem vn {m n:Nat} {F:List Int} (hm:m≤12) (hn:n≤11) (hF:StpSz 1048576 n F) (h:StOk m n F):∀ k,k<m+n→∀ out:List (Nat × Nat),out.length+2 ^ (k+1-m)≤100000→
  Does Tryz.prog 54 [.d (.int m),.d (stp n F),.d (.int k),.ptr 0 0] [some ⟨0,false,[.own 1 0 out.length]⟩,some ⟨2,true,iv (aW out)⟩] (.d (.int (walk m F k out).2)) [some ⟨0,false,[.own 1 0 (walk m F k out).1.length]⟩,some ⟨2,true,iv (aW (walk m F k out).1)⟩]:=by
 intro k
 induction k using Nat.strongRecOn with
 | _ k ih=>
  intro hk out ho
  have hFl:=hF.l
  (refine spec_of (by kernel_rfl) Tryz.func54 nL (fnOk (nb rfl) ?_);unfold C_impl_sortSteps)
  (simp only[Nat.reduceSub,Zl,zn,Nat.reduceAdd,zF];try simp only[ae]);(simp only[go_sem,seval,reduceCtorEq,List.replicate])
  rcases Nat.lt_or_ge k m with hkm | hkm
  ·have d1:(k:Int)<m:=by omega
   simp(disch:=omega) only[go_sem,seval,reduceCtorEq,d1,dO hkm]
   (refine zE ?_ ?_<;>try simp only[go_sem,seval,reduceCtorEq])
  ·obtain⟨j,rfl⟩:∃ j,k=m+j:=⟨k-m,by omega⟩
   have hj:j<n:=by omega
   have hs:=h j hj
   have d1:¬ ((m+j:Nat):Int)<m:=by omega
   have e1:((m+j:Nat):Int)-m=j:=by omega
   have ij:(j:Int)<n:=by omega
   have ga:F[j*2]? =some (stA F j:Int):=by rw[← hs.2.2.1,ab (by omega)];exact zg (by omega)
   have gb:F[j*2+1]? =some (stB F j:Int):=by rw[← hs.2.2.2,ab (by omega)];exact zg (by omega)
   have hp:2 ^ j≤2 ^ 11:=Nat.pow_le_pow_right (by omega) (by omega)
   have lA:=v7 h (stA F j) (by omega) out
   have lB:=v7 h (stB F j) (by omega) (walk m F (stA F j) out).1
   have p1:2 ^ (stA F j+1-m)≤2 ^ j:=Nat.pow_le_pow_right (by omega) (by omega)
   have p2:2 ^ (stB F j+1-m)≤2 ^ j:=Nat.pow_le_pow_right (by omega) (by omega)
   have p3:2 ^ (m+j+1-m)=2*2 ^ j:=by rw[show m+j+1-m=j+1 by omega,Nat.pow_succ,Nat.mul_comm]
   rw[p3]at ho
   have hA:=ih (stA F j) hs.1 (by omega) out (by omega)
   have hB:=ih (stB F j) hs.2.1 (by omega) (walk m F (stA F j) out).1 (by omega)
   have hw:=f7 h hj out
   simp(disch:=omega) only[go_sem,seval,reduceCtorEq,d1,e1,ij,ga]
   (refine ai [0,1] [1] false (zd rfl) ?_ _ ?_ (hA) ?_ ?_;(focus (simp only[go_sem,seval,reduceCtorEq];done));(focus (simp only[go_sem,seval,reduceCtorEq];done));(focus (first | rfl | (simp only[go_sem,seval,reduceCtorEq];done))))
   simp(disch:=omega) only[go_sem,seval,reduceCtorEq,or_true,false_or,if_true,e1,ij,gb]
   (refine ai [0,1] [1] false (zd rfl) ?_ _ ?_ (hB) ?_ ?_;(focus (simp only[go_sem,seval,reduceCtorEq];done));(focus (simp only[go_sem,seval,reduceCtorEq];done));(focus (first | rfl | (simp only[go_sem,seval,reduceCtorEq];done))))
   simp(disch:=omega) only[go_sem,seval,reduceCtorEq,or_true,false_or,if_true]
   have hfl:=fr (walk m F (stB F j) (walk m F (stA F j) out).1).1
   generalize walk m F (stA F j) out=A at*
   generalize walk m F (stB F j) A.1=B at*
   have hm1:min (A.2:Int) B.2=((min A.2 B.2:Nat):Int):=by omega
   have hm2:max (A.2:Int) B.2=((max A.2 B.2:Nat):Int):=by omega
   have hrow:=uz B.1 (min A.2 B.2) (max A.2 B.2)
   have e2:(m:Int)+((B.1.length+1:Nat):Int)-1=((m+B.1.length:Nat):Int):=by omega
   refine⟨hfl,by omega, ?_⟩
   simp only[hm1,hm2,hw,hrow,List.length_append,List.length_singleton,e2]
   (refine zE ?_ ?_<;>try simp only[go_sem,seval,reduceCtorEq])
noncomputable def l5 (N:Net) (n:Nat) (F:List Int):List (Nat × Nat):=if am N n F=true∧0<n then (walk N.ts.length F (N.ts.length+n-1) []).1 else []
noncomputable def jH (N:Net) (n:Nat) (F:List Int):Nat:=(l5 N n F).length
noncomputable def dX (N:Net) (n:Nat) (F:List Int):List Int:=aW (l5 N n F)
theorem stOk {N:Net} {n:Nat} {F:List Int} (h:am N n F=true):StOk N.ts.length n F:=fun j hj=>by
 have hs:=cl h hj
 have ha:=hs.at (cQ h j (Nat.le_of_lt hj))
 exact⟨ha.1,ha.2,hs.a,hs.b⟩
theorem uB {N:Net} {n:Nat} {F:List Int} (h:NSz 1048576 N) (hF:StpSz 1048576 n F):Does Tryz.prog 19 [netA N,.d (stp n F)] [] (.tup [.own 0 0 (jH N n F),.d (.bool (am N n F))]) [some ⟨2,true,iv (dX N n F)⟩]:=by
 (refine spec_of (by kernel_rfl) Tryz.func19 nR (fnOk (nb rfl) ?_);unfold C_impl_SortOrder)
 (simp only[Nat.reduceSub,Zl,zn,Nat.reduceAdd,zF];try simp only[ae]);(simp only[go_sem,seval,reduceCtorEq,List.replicate])
 (refine zC (dN h hF) ?_)
 cases hok:am N n F
 ·have e:l5 N n F=[]:=by simp [l5,hok]
  have e1:jH N n F=0:=by rw[jH,e];rfl
  have e2:dX N n F=[]:=by rw[dX,e];rfl
  simp only[go_sem,seval,reduceCtorEq,hok,e1,e2,bv]
  refine FnEnd.wk (Wk.nilE 4 2 _ _ rfl) ?_
  (refine zE ?_ ?_<;>try simp only[go_sem,seval,reduceCtorEq])
 ·have h12:=(an.1 (ao.1 hok).1).2.1
  have hnn:=(ao.1 hok).2.1
  have hn20:=hF.n
  simp only[go_sem,seval,reduceCtorEq,hok]
  refine GH.mk (Wk.nilS 1 0 2 _ _ _ rfl rfl) ?_
  by_cases h0:n=0
  ·have e:l5 N n F=[]:=by simp [l5,h0]
   have e1:jH N n F=0:=by rw[jH,e];rfl
   have e2:dX N n F=[]:=by rw[dX,e];rfl
   simp only[e1,e2,bv]
   subst h0
   simp only[go_sem,seval,reduceCtorEq,hok,Int.natCast_zero]
   (refine zE ?_ ?_<;>try simp only[go_sem,seval,reduceCtorEq])
  ·have e:l5 N n F=(walk N.ts.length F (N.ts.length+n-1) []).1:=if_pos ⟨hok,by omega⟩
   have e1:jH N n F=(walk N.ts.length F (N.ts.length+n-1) []).1.length:=by rw[jH,e]
   have e2:dX N n F=aW (walk N.ts.length F (N.ts.length+n-1) []).1:=by rw[dX,e]
   have d1:(n:Int)>0:=by omega
   have d2:(N.ts.length:Int)+n-1=((N.ts.length+n-1:Nat):Int):=by omega
   have hp:2 ^ (N.ts.length+n-1+1-N.ts.length)≤2 ^ 11:=Nat.pow_le_pow_right (by omega) (by omega)
   have hz:iv (aW [])=[]:=rfl
   have hc:=vn (by omega) (by omega) hF (stOk hok) (N.ts.length+n-1) (by omega) [] (by simp only[zn];omega)
   simp(disch:=omega) only[go_sem,seval,reduceCtorEq,d1,d2]
   (refine ai [1,2] [2] false (zd rfl) ?_ _ ?_ (hc) ?_ ?_;(focus (simp only[go_sem,seval,reduceCtorEq,hz];done));(focus (simp only[go_sem,seval,reduceCtorEq,hz];done));(focus (first | rfl | (simp only[go_sem,seval,reduceCtorEq,hz];done))))
   simp only[go_sem,seval,reduceCtorEq,or_true,false_or,if_true,e1,e2]
   (refine zE ?_ ?_<;>try simp only[go_sem,seval,reduceCtorEq])
end Go.Proofs.YtneocijmbnhblaaGreat
namespace Go.Proofs.YtneocijmbnhblaaGreat
open Plain
section
variable {m n : Nat} {F G : List Int}
theorem gz (h:StOk m n F):∀ k,k<m+n→∀ out,(∃ l,(walk m F k out).1=out++l∧(m≤k→l≠[]))∧(k<m→walk m F k out=(out,k))∧(m≤k→(walk m F k out).2+1=m+(walk m F k out).1.length):=by
 intro k
 induction k using Nat.strongRecOn with
 | _ k ih=>
  intro hk out
  rcases Nat.lt_or_ge k m with hkm | hkm
  ·rw[dO hkm]
   exact⟨⟨[],by simp,fun h=>by omega⟩,fun _=>rfl,fun h=>by omega⟩
  ·obtain⟨j,rfl⟩:∃ j,k=m+j:=⟨k-m,by omega⟩
   have hj:j<n:=by omega
   have hs:=h j hj
   obtain⟨⟨l1,e1,_⟩,_⟩:=ih (stA F j) hs.1 (by omega) out
   obtain⟨⟨l2,e2,_⟩,_⟩:=ih (stB F j) hs.2.1 (by omega) (walk m F (stA F j) out).1
   rw[f7 h hj]
   have e3:∀ p,(walk m F (stB F j) (walk m F (stA F j) out).1).1++[p]=out++(l1++l2++[p]):=fun p=>by rw[e2,e1];simp only[List.append_assoc]
   refine⟨⟨_,e3 _,fun _=>by simp⟩,fun h=>by omega,fun _=> ?_⟩
   simp only[List.length_append,List.length_singleton]
   omega
def StepsAt (G:List Int) (a:Nat) (out:List (Nat × Nat)):Prop:=∀ j (hj:j<out.length),a≤j→stA G j=out[j].1∧stB G j=out[j].2
theorem StepsAt.pre {a:Nat} {out l:List (Nat × Nat)} (h:StepsAt G a (out++l)):StepsAt G a out:=fun j hj ha=>by
 have:=h j (by rw[List.length_append];omega) ha
 rwa [List.getElem_append_left hj]at this
theorem StepsAt.up {a b:Nat} {out:List (Nat × Nat)} (h:StepsAt G a out) (hab:a≤b):StepsAt G b out:=fun j hj hb=>h j hj (by omega)
theorem wV (h:StOk m n F):∀ k,k<m+n→∀ out,StepsAt G out.length (walk m F k out).1→walk m G (walk m F k out).2 out=walk m F k out:=by
 intro k
 induction k using Nat.strongRecOn with
 | _ k ih=>
  intro hk out hG
  rcases Nat.lt_or_ge k m with hkm | hkm
  ·rw[dO hkm]at hG ⊢
   exact dO hkm out
  ·obtain⟨j,rfl⟩:∃ j,k=m+j:=⟨k-m,by omega⟩
   have hj:j<n:=by omega
   have hs:=h j hj
   have ia:=ih (stA F j) hs.1 (by omega) out
   have ib:=ih (stB F j) hs.2.1 (by omega) (walk m F (stA F j) out).1
   obtain⟨⟨l1,e1,n1⟩,f1,g1⟩:=gz h (stA F j) (by omega) out
   obtain⟨⟨l2,e2,n2⟩,f2,g2⟩:=gz h (stB F j) (by omega) (walk m F (stA F j) out).1
   rw[f7 h hj]at hG ⊢
   simp only at hG ⊢
   generalize hA:walk m F (stA F j) out=A at*
   obtain⟨o1,x⟩:=A
   simp only at*
   generalize hB:walk m F (stB F j) o1=B at*
   obtain⟨o2,y⟩:=B
   simp only at*
   subst e1
   subst e2
   have hG2:StepsAt G out.length (out++l1++l2):=hG.pre
   have hG1:StepsAt G out.length (out++l1):=hG2.pre
   have ha:=ia hG1
   have hb:=ib (hG2.up (by rw[List.length_append];omega))
   have hlast:=hG (out++l1++l2).length (by simp) (by simp only[List.length_append];omega)
   have hget:((out++l1++l2)++[(min x y,max x y)])[(out++l1++l2).length]'(by simp)=(min x y,max x y):=by simp
   rw[hget]at hlast
   simp only at hlast
   have hx:x<m+(out++l1++l2).length:=by
    rcases Nat.lt_or_ge (stA F j) m with h1 | h1
    ·have:=f1 h1
     simp only[Prod.mk.injEq]at this
     omega
    ·have:=g1 h1
     simp only[List.length_append]at this ⊢
     omega
   have hy:y<m+(out++l1++l2).length:=by
    rcases Nat.lt_or_ge (stB F j) m with h1 | h1
    ·have:=f2 h1
     simp only[Prod.mk.injEq]at this
     omega
    ·have:=g2 h1
     simp only[List.length_append]at this ⊢
     omega
   rw[walk,show m+(out++l1++l2).length-m=(out++l1++l2).length by omega,hlast.1,hlast.2,dif_pos (by omega)]
   by_cases hxy:x≤y
   ·rw[Nat.min_eq_left hxy,Nat.max_eq_right hxy,ha]
    simp only
    rw[hb]
    simp only
    rw[Nat.min_eq_left hxy,Nat.max_eq_right hxy]
   ·-- the right one is a leaf
    have hbl:stB F j<m:=by
     rcases Nat.lt_or_ge (stB F j) m with h1 | h1
     ·exact h1
     ·have h2:=g2 h1
      have h3:=n2 h1
      have h4:0<l2.length:=List.length_pos_iff.2 h3
      exfalso
      rcases Nat.lt_or_ge (stA F j) m with h5 | h5
      ·have:=f1 h5
       simp only[Prod.mk.injEq]at this
       simp only[List.length_append]at h2
       omega
      ·have:=g1 h5
       simp only[List.length_append]at h2 this
       omega
    have hb2:=f2 hbl
    simp only[Prod.mk.injEq]at hb2
    obtain⟨hl2,rfl⟩:=hb2
    have hl2':l2=[]:=by simpa using hl2
    subst hl2'
    rw[Nat.min_eq_right (by omega),Nat.max_eq_left (by omega),dO hbl]
    simp only
    rw[ha]
    simp only[List.append_nil]
    rw[Nat.min_eq_left (by omega),Nat.max_eq_right (by omega)]
end
end Go.Proofs.YtneocijmbnhblaaGreat
namespace Go.Proofs.YtneocijmbnhblaaGreat
open Go.RowKit Go.Lift Plain
set_option maxRecDepth 100000
def dC (T os:List Int) (s:Osd) (p:Nat × Nat):Int:=gain T os s (s.nums.getD p.1 0,s.nums.getD p.2 0)
theorem sg {T os:List Int} {r0:Grd} {m q:Nat} (hD:T.length=100) (h:GrdOk T r0.s m (q+1)) (hm:m+q≤1000) (ho:os.length≤1048576) (hp:r0.ps=[]):
  Does Tryz.prog 55 [.ptr 0 0] [osR T os r0.s] (.own 1 0 q) [osR T os (bJ T os r0 q).s,some ⟨2,true,iv (aW (bJ T os r0 q).ps)⟩]:=by
 (refine spec_of (by kernel_rfl) Tryz.func55 gK (fnOk (nb rfl) ?_);unfold C_impl_greedySteps)
 simp only[osR,lvS]
 (simp only[Nat.reduceSub,Zl,zn,Nat.reduceAdd,zF];try simp only[ae]);(simp only[go_sem,seval,reduceCtorEq,List.replicate])
 (refine cN (Wk.nilE 3 2 _ _ rfl) ?_;simp only[go_sem,seval,reduceCtorEq])
 have hz1:bJ T os r0 0=r0:=rfl
 have hz4:aW r0.ps=[]:=by rw[hp];rfl
 refine aH (q) (mkB 82 2417851639229258349412336) (fun k=>[(3,.own 1 0 k)]) (fun k=>[(0,osB T (.d (ints os)) (.d (lvS (bJ T os r0 k).s)) (.d (.int (bJ T os r0 k).s.all.length))),(1,iv (aW (bJ T os r0 k).ps))]) (h1:=by first | (simp only[go_sem,seval,reduceCtorEq,nz,na,n1,hz1,hz4,bv,lvS];first | done | rfl) | rfl) (h2:=by first | (simp only[go_sem,seval,reduceCtorEq,nz,na,n1,hz1,hz4,bv,lvS];first | done | rfl) | rfl) (hr:=fun k hk=> ?_)
 unfold L2_impl_greedySteps
 have hpsl:=kh T os r0 k
 rw[hp,zn,Nat.zero_add]at hpsl
 have hfl:=fr (bJ T os r0 k).ps
 have hR:=rb (os:=os) h k hk
 have hn:=hR.n
 have hal:=hR.ok.n
 by_cases hlt:k<q
 ·rw[show q+1-k=(q-k-1)+2 by omega]at hR
  have hnx:bJ T os r0 (k+1)=⟨(bJ T os r0 k).s.step os (grdP T os (bJ T os r0 k).s).1 (grdP T os (bJ T os r0 k).s).2,(bJ T os r0 k).ps++[grdP T os (bJ T os r0 k).s]⟩:=rfl
  generalize hr:bJ T os r0 k=r at*
  obtain⟨M,hM⟩:∃ M,r.s.nums.length=M:=⟨_,rfl⟩
  have hMn:=hR.n
  have d1:(M:Int)>1:=by omega
  have hnx1:=congrArg Grd.s hnx
  have hnx3:=congrArg Grd.ps hnx
  simp only at hnx1 hnx3
  obtain⟨P,hP⟩:∃ P,prs (List.range M)=P:=⟨_,rfl⟩
  have hPlen:P.length=cRow M (M-1):=by rw[← hP,me,List.length_range]
  have hc0:cRow M 0=0:=rfl
  have hk0:da (dC T os r.s) P 0=(-1, -1,0):=rfl
  have hPpos:0<P.length:=by rw[← hP];exact ui (l:=List.range M) (q:=M-2) (by rw[List.length_range];omega)
  have hcMM:cRow M M=P.length:=by
   obtain⟨M',rfl⟩:∃ M',M=M'+1:=⟨M-1,by omega⟩
   rw[hPlen,cRow]
   simp
  obtain⟨b,hb⟩:∃ b,cE (dC T os r.s) P P.length=b:=⟨_,rfl⟩
  have hbm:b.1<M∧b.2<M:=by
   have hx:=ol (g:=dC T os r.s) hPpos P.length (Nat.le_refl _)
   rw[hb, ← hP]at hx
   have:=pD hx
   exact⟨List.mem_range.1 this.1,List.mem_range.1 this.2⟩
  have hkb:da (dC T os r.s) P P.length=((b.1:Int),(b.2:Int),dC T os r.s b):=by
   rw[da,if_neg (by omega),hb]
  have hb1:b.1<r.s.nums.length:=by omega
  have hb2:b.2<r.s.nums.length:=by omega
  have hgp:grdP T os r.s=(r.s.nums[b.1],r.s.nums[b.2]):=by
   have hx:=AB (T:=T) (os:=os) (s:=r.s) (by rw[hM,hP];exact hPpos) P.length (by rw[hM,hP];exact Nat.le_refl _)
   rw[hM,hP]at hx
   have hy:cE (fun p=>gain T os r.s (r.s.nums.getD p.1 0,r.s.nums.getD p.2 0)) P P.length=b:=hb
   have hl:(prs r.s.nums).length=P.length:=by rw[me,hM,hPlen]
   rw[hy]at hx
   rw[grdP,hl,hx]
   simp [hb1,hb2]
  simp(disch:=omega) only[go_sem,seval,reduceCtorEq,lvS,hM,d1]
  refine aH (M) (mkB 82 18889465931478576661376) (fun i=>[(21,.d (.int i)),(4,.d (.int (da (dC T os r.s) P (cRow M i)).1)),(5,.d (.int (da (dC T os r.s) P (cRow M i)).2.1)),(6,.d (.int (da (dC T os r.s) P (cRow M i)).2.2))]) (fun i=>[]) (h1:=by first | (simp only[go_sem,seval,reduceCtorEq,nz,na,n1,hc0,hk0,Int.natCast_zero];first | done | rfl) | rfl) (h2:=by first | (simp only[go_sem,seval,reduceCtorEq,nz,na,n1,hc0,hk0,Int.natCast_zero];first | done | rfl) | rfl) (hr:=fun i hi=> ?_)
  unfold L1_impl_greedySteps
  by_cases hi:i<M
  ·have d2:(i:Int)<M:=by omega
   simp(disch:=omega) only[go_sem,seval,reduceCtorEq,d2]
   refine aH (M-1-i) (mkB 82 9444732965739223319040) (fun j=>[(8,.d (.int ((i:Int)+1+j))),(4,.d (.int (da (dC T os r.s) P (cRow M i+j)).1)),(5,.d (.int (da (dC T os r.s) P (cRow M i+j)).2.1)),(6,.d (.int (da (dC T os r.s) P (cRow M i+j)).2.2))]) (fun j=>[]) (h1:=by first | (simp only[go_sem,seval,reduceCtorEq,nz,na,n1,Int.natCast_zero,Int.add_zero,Nat.add_zero];first | done | rfl) | rfl) (h2:=by first | (simp only[go_sem,seval,reduceCtorEq,nz,na,n1,Int.natCast_zero,Int.add_zero,Nat.add_zero];first | done | rfl) | rfl) (hr:=fun j hj=> ?_)
   unfold L0_impl_greedySteps
   by_cases hj:i+1+j<M
   ·have d3:(i:Int)+1+j<M:=by omega
    have hg:=DC (M:=M) (i:=i) (q:=j) hi hj
    rw[hP]at hg
    obtain⟨hcl,hPc⟩:=List.getElem?_eq_some_iff.1 hg
    have hiM:i<r.s.nums.length:=by omega
    have hjM:i+1+j<r.s.nums.length:=by omega
    have ga:=gF (f:=r.s.lab) hiM
    have gb:=gF (f:=r.s.lab) hjM
    have l1:r.s.nums.getD i 0=r.s.nums[i]:=by rw[zq,zg hiM];rfl
    have l2:r.s.nums.getD (i+1+j) 0=r.s.nums[i+1+j]:=by rw[zq,zg hjM];rfl
    have hG:dC T os r.s (i,i+1+j)=capP T (r.s.res os r.s.nums[i] r.s.nums[i+1+j])-capP T (r.s.lab r.s.nums[i])-capP T (r.s.lab r.s.nums[i+1+j]):=by
     simp only[dC,gain,l1,l2]
    have u1:(i:Int)+1+j=((i+1+j:Nat):Int):=by push_cast;rfl
    have nx:((i+1+j:Nat):Int)+1=(i:Int)+1+((j+1:Nat):Int):=by omega
    have hrl:=nu (hR.ok.res os r.s.nums[i] r.s.nums[i+1+j]).1 (hR.ok.res os r.s.nums[i] r.s.nums[i+1+j]).2
    have hla:=hR.ok.len r.s.nums[i]
    have hlb:=hR.ok.len r.s.nums[i+1+j]
    have ca:=pQ (r.s.lab r.s.nums[i]) (hR.t r.s.nums[i])
    have cb:=pQ (r.s.lab r.s.nums[i+1+j]) (hR.t r.s.nums[i+1+j])
    have cr:=pQ (r.s.res os r.s.nums[i] r.s.nums[i+1+j]) hR.t.res
    have hcM:(i:Int)<M:=by omega
    have hcJ:((i+1+j:Nat):Int)<M:=by omega
    rw[u1]at d3
    simp(disch:=omega) only[go_sem,seval,reduceCtorEq,u1,d3,hM]
    (refine bZ (cI (D:=T) (os:=os) (s:=r.s) (i:=i) (j:=i+1+j) hD hR.ok (by omega) ho hiM hjM) ?_ ?_ ?_;(focus (simp only[go_sem,seval,reduceCtorEq,osP,lvS,hM];done));(first | rfl | (focus (simp only[go_sem];done))))
    simp only[go_sem,seval,reduceCtorEq]
    (refine bZ (cj (T:=T) (os:=os) (s:=r.s) (L:=r.s.res os r.s.nums[i] r.s.nums[i+1+j]) hD (by omega) (hR.ok.res os r.s.nums[i] r.s.nums[i+1+j]).2 hR.t.res) ?_ ?_ ?_;(focus (simp only[go_sem,seval,reduceCtorEq,osP,lvS,hM];done));(first | rfl | (focus (simp only[go_sem];done))))
    simp(disch:=omega) only[go_sem,seval,reduceCtorEq,hcM,ga]
    (repeat (refine And.intro (by omega) ?_))
    (refine bZ (cj (T:=T) (os:=os) (s:=r.s) (L:=r.s.lab r.s.nums[i]) hD (by omega) (hR.ok.at r.s.nums[i]).2 (hR.t r.s.nums[i])) ?_ ?_ ?_;(focus (simp only[go_sem,seval,reduceCtorEq,osP,lvS,hM];done));(first | rfl | (focus (simp only[go_sem];done))))
    simp(disch:=omega) only[go_sem,seval,reduceCtorEq,hcJ,gb]
    (repeat (refine And.intro (by omega) ?_))
    (refine bZ (cj (T:=T) (os:=os) (s:=r.s) (L:=r.s.lab r.s.nums[i+1+j]) hD (by omega) (hR.ok.at r.s.nums[i+1+j]).2 (hR.t r.s.nums[i+1+j])) ?_ ?_ ?_;(focus (simp only[go_sem,seval,reduceCtorEq,osP,lvS,hM];done));(first | rfl | (focus (simp only[go_sem];done))))
    simp(disch:=omega) only[go_sem,seval,reduceCtorEq, ← hG]
    by_cases hC:cRow M i+j=0
    ·have d4:(da (dC T os r.s) P (cRow M i+j)).1<0:=tf.2 hC
     have hP0:P[0]=(i,i+1+j):=by
      have hx:=hg
      rw[hC,zg (by omega)]at hx
      exact Option.some.inj hx
     have e:da (dC T os r.s) P (cRow M i+(j+1))=((i:Int),((i+1+j:Nat):Int),dC T os r.s (i,i+1+j)):=by
      rw[← Nat.add_assoc,hC,Nat.zero_add,w9 (by omega),hP0]
     simp(disch:=omega) only[go_sem,seval,reduceCtorEq,d4]
     (refine Next.drop (mkB 82 9444732965739223319040) (by omega) (h1:= ?_) (h2:= ?_)<;>first | (simp only[go_sem,seval,reduceCtorEq,nz,na,n1,e,nx];first | done | rfl) | rfl | skip)
    ·have d4:¬ (da (dC T os r.s) P (cRow M i+j)).1<0:=fun hx=>hC (tf.1 hx)
     have e:da (dC T os r.s) P (cRow M i+(j+1))=if dC T os r.s (i,i+1+j)<(da (dC T os r.s) P (cRow M i+j)).2.2 then ((i:Int),((i+1+j:Nat):Int),dC T os r.s (i,i+1+j)) else da (dC T os r.s) P (cRow M i+j):=by
      rw[← Nat.add_assoc,xr hcl (by omega),hPc]
     by_cases hcmp:dC T os r.s (i,i+1+j)<(da (dC T os r.s) P (cRow M i+j)).2.2
     ·rw[if_pos hcmp]at e
      simp(disch:=omega) only[go_sem,seval,reduceCtorEq,d4,hcmp]
      (refine Next.drop (mkB 82 9444732965739223319040) (by omega) (h1:= ?_) (h2:= ?_)<;>first | (simp only[go_sem,seval,reduceCtorEq,nz,na,n1,e,nx];first | done | rfl) | rfl | skip)
     ·rw[if_neg hcmp]at e
      simp(disch:=omega) only[go_sem,seval,reduceCtorEq,d4,hcmp]
      (refine Next.drop (mkB 82 9444732965739223319040) (by omega) (h1:= ?_) (h2:= ?_)<;>first | (simp only[go_sem,seval,reduceCtorEq,nz,na,n1,e,nx];first | done | rfl) | rfl | skip)
   ·have d3:¬ (i:Int)+1+j<M:=by omega
    obtain rfl:j=M-1-i:=by omega
    have hcs:cRow M i+(M-1-i)=cRow M (i+1):=rfl
    simp(disch:=omega) only[go_sem,seval,reduceCtorEq,d3,hcs,hM]
    (refine Next.drop (mkB 82 18889465931478576661376) (by omega) (h1:= ?_) (h2:= ?_)<;>first | (simp only[go_sem,seval,reduceCtorEq,nz,na,n1];first | done | rfl) | rfl | skip)
  ·have d2:¬ (i:Int)<M:=by omega
   obtain rfl:i=M:=by omega
   have hct:=bN (D:=T) (os:=os) (s:=r.s) hD hR.ok (by omega) ho hb1 hb2
   rw[hgp]at hnx1 hnx3
   simp only at hnx1 hnx3
   rw[← hnx1]at hct
   have hrw:=uz r.ps r.s.nums[b.1] r.s.nums[b.2]
   simp(disch:=omega) only[go_sem,seval,reduceCtorEq,d2,hcMM,hkb]
   (refine ai [0] [] false (zd rfl) ?_ _ ?_ (hct) ?_ ?_;(focus (simp only[go_sem,seval,reduceCtorEq,osR,lvS,hM];done));(focus (simp only[go_sem,seval,reduceCtorEq,osR,lvS,hM];done));(focus (first | rfl | (simp only[go_sem,seval,reduceCtorEq,osR,lvS,hM];done))))
   simp(disch:=omega) only[go_sem,seval,reduceCtorEq,osR,lvS]
   (repeat (refine And.intro (by omega) ?_))
   simp only[hrw]
   (refine Next.drop (mkB 82 2417851639229258349412336) (by omega) (h1:= ?_) (h2:= ?_)<;>first | (simp only[go_sem,seval,reduceCtorEq,nz,na,n1,hnx3,lvS];first | done | rfl) | rfl | skip)
 ·have d1:¬ ((bJ T os r0 k).s.nums.length:Int)>1:=by omega
  obtain rfl:k=q:=by omega
  simp(disch:=omega) only[go_sem,seval,reduceCtorEq,d1,lvS]
  (refine zE ?_ ?_<;>try simp only[go_sem,seval,reduceCtorEq])
theorem si {T os:List Int} {r0:Grd} (hD:T.length=100) (h:r0.s.nums.length=0):
  Does Tryz.prog 55 [.ptr 0 0] [osR T os r0.s] (.own 1 0 0) [osR T os r0.s,some ⟨2,true,[]⟩]:=by
 (refine spec_of (by kernel_rfl) Tryz.func55 gK (fnOk (nb rfl) ?_);unfold C_impl_greedySteps)
 simp only[osR,lvS,h]
 (simp only[Nat.reduceSub,Zl,zn,Nat.reduceAdd,zF];try simp only[ae]);(simp only[go_sem,seval,reduceCtorEq,List.replicate])
 (refine cN (Wk.nilE 3 2 _ _ rfl) ?_;simp only[go_sem,seval,reduceCtorEq])
 refine aH (0) (mkB 82 2417851639229258349412336) (fun k=>[(3,.own 1 0 0)]) (fun k=>[(0,osB T (.d (ints os)) (.d (.sl 0 (lvD r0.s.lab r0.s.nums))) (.d (.int r0.s.all.length))),(1,[])]) (h1:=by first | (simp only[go_sem,seval,reduceCtorEq,nz,na,n1];first | done | rfl) | rfl) (h2:=by first | (simp only[go_sem,seval,reduceCtorEq,nz,na,n1];first | done | rfl) | rfl) (hr:=fun k hk=> ?_)
 unfold L2_impl_greedySteps
 have d1:¬ (0:Int)>1:=by omega
 simp(disch:=omega) only[go_sem,seval,reduceCtorEq,d1,Int.natCast_zero]
 (refine zE ?_ ?_<;>try simp only[go_sem,seval,reduceCtorEq])
end Go.Proofs.YtneocijmbnhblaaGreat
