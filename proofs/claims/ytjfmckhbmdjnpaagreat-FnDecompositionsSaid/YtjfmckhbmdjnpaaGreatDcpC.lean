/-
 Contracts: tensors joined; sorted ints; widths. No condition.
-/
import Derived.Test.YtjfmckhbmdjnpaaGreatMgDecompositionsA
import Derived.Test.YtjfmckhbmdjnpaaGreatSrt
import Derived.Test.YtjfmckhbmdjnpaaGreatSemK
import Derived.Test.YtjfmckhbmdjnpaaGreatCtrB
import Derived.Test.YtjfmckhbmdjnpaaGreatPlD
set_option linter.unusedSimpArgs false
set_option linter.unusedVariables false
namespace Go.Proofs.YtjfmckhbmdjnpaaGreat
open Go.RowKit Go.Lift Plain
set_option maxRecDepth 100000
theorem q4 {xs:List Int} (hl:xs.length≤1048576):Does Tryz.prog 53 [.d (ints xs)] [] (.d (ints (srt xs))) []:=by
 have e:=li xs
 have h:Does Tryz.prog 53 [.d (ints xs)] [] (.own 0 0 (srt xs).length) [some ⟨1,true,iv (srt xs)⟩]:=by
  rw[e]
  (refine spec_of (by kernel_rfl) Tryz.func53 qo (fnOk (nb rfl) ?_);unfold jU)
  (simp only[Nat.reduceSub,Zl,zn,Nat.reduceAdd,zF];try simp only[af]);(simp only[go_sem,seval,reduceCtorEq,List.replicate])
  (refine zC (dU (xs:=xs) (by omega)) ?_)
  simp only[go_sem,seval,reduceCtorEq]
  (refine eD [0] false (Ih (xs:=xs) (g:=false) hl) (zd rfl) ?_ ?_ ?_ ?_ (zd rfl) ?_;(focus (simp only[go_sem,seval,reduceCtorEq,e,beq_self_eq_true];done));(focus (simp only[go_sem,seval,reduceCtorEq];done));(focus (simp only[go_sem,seval,reduceCtorEq,e,beq_self_eq_true];done));(focus (simp only[go_sem,seval,reduceCtorEq];done)))
  simp only[go_sem,seval,reduceCtorEq]
  (refine zE ?_ ?_<;>try simp only[go_sem,seval,reduceCtorEq])
 exact h.fzI
theorem Cw {B:List (List Int)} {k:Nat} (h:k<B.length):maxL 0 (lenL (B.take (k+1)))=max (maxL 0 (lenL (B.take k))) (B[k].length:Int):=by
 rw[bb h]
 unfold maxL lenL
 rw[List.map_append,List.foldl_append]
 rfl
theorem WidthOf_d {B:List (List Int)} {P:List Int} (h:DSz 1048576 B P):Does Tryz.prog 19 [decA B P] [] (.d (.int (maxL 0 (lenL B)))) []:=by
 have hbl:=h.b
 (refine spec_of (by kernel_rfl) Tryz.func19 uE (fnOk (nb rfl) ?_);unfold o5)
 simp only[decA,lists]
 (simp only[Nat.reduceSub,Zl,zn,Nat.reduceAdd,zF];try simp only[af]);(simp only[go_sem,seval,reduceCtorEq,List.replicate])
 have hz:maxL 0 (lenL (B.take 0))=0:=rfl
 refine aN (B.length) (mkB 19 261152) (fun k=>[(3,.d (.int (maxL 0 (lenL (B.take k))))),(9,.d (.int k))]) (fun k=>[]) (h1:=by first | (simp only[go_sem,seval,reduceCtorEq,nz,na,n1,hz];first | done | rfl) | rfl) (h2:=by first | (simp only[go_sem,seval,reduceCtorEq,nz,na,n1,hz];first | done | rfl) | rfl) (hr:=fun k hk=> ?_)
 unfold ml
 by_cases hlt:k<B.length
 ·have d1:(k:Int)<B.length:=by omega
  have g:B[k]? =some B[k]:=zg hlt
  have e:=Cw hlt
  simp(disch:=omega) only[go_sem,seval,reduceCtorEq,d1,g]
  (refine Next.drop (mkB 19 261152) (by omega) (h1:= ?_) (h2:= ?_)<;>first | (simp only[go_sem,seval,reduceCtorEq,nz,na,n1,e];first | done | rfl) | rfl | skip)
 ·have d1:¬ (k:Int)<B.length:=by omega
  have e:B.take k=B:=zt (by omega)
  simp(disch:=omega) only[go_sem,seval,reduceCtorEq,d1,e]
  (refine zE ?_ ?_<;>try simp only[go_sem,seval,reduceCtorEq])
def jnTo (r:Rg) (wd:Nat) (t:Ten) (l:List Ten) (k:Nat):Ten:=Sem.j4 r wd t (l.take k)
section
variable {r : Rg} {wd k : Nat} {t : Ten} {l : List Ten}
theorem CL (h:k<l.length):jnTo r wd t l (k+1)=conR r wd (jnTo r wd t l k) l[k] (au (jnTo r wd t l k).labels l[k].labels):=by
 unfold jnTo Sem.j4
 rw[bb h,List.foldl_append]
 rfl
theorem EK (h:l.length≤k):jnTo r wd t l k=Sem.j4 r wd t l:=by rw[jnTo,zt h]
theorem GW (hr:ae r=true) (hw:ah r=wd) (ht:Sem.TV r wd Sem.d6 t) (t6:Sem.L6 t.labels) (hl:∀ u∈l,Sem.TV r wd Sem.d6 u∧Sem.L6 u.labels) (k:Nat):Sem.TV r wd Sem.d6 (jnTo r wd t l k)∧Sem.L6 (jnTo r wd t l k).labels:=by
 obtain⟨h1,h2,_⟩:=Sem.uJ hr hw ht (l:=l.take k) fun u hu=>(hl u (List.mem_of_mem_take hu)).1
 refine⟨h1,fun x hx=> ?_⟩
 rcases(h2 x).1 hx with h | ⟨u,hu,hxu⟩
 ·exact t6 x h
 ·exact(hl u (List.mem_of_mem_take hu)).2 x hxu
end
theorem CK {kk pp nn:Int} {wd:Nat} {t:Ten} {l:List Ten} (hr:ae ⟨kk,pp,nn⟩=true) (hw:ah ⟨kk,pp,nn⟩=wd) (ht:Sem.TV ⟨kk,pp,nn⟩ wd Sem.d6 t) (t6:Sem.L6 t.labels) (hl:∀ u∈l,Sem.TV ⟨kk,pp,nn⟩ wd Sem.d6 u∧Sem.L6 u.labels) (hn:l.length≤1000):
  Does Tryz.prog 63 [bm kk pp nn,.d (tens (t :: l))] [] (.tup [tenA (Sem.j4 ⟨kk,pp,nn⟩ wd t l),.d (.bool true)]) []:=by
 have hJ:=GW hr hw ht t6 hl
 (refine spec_of (by kernel_rfl) Tryz.func63 uB (fnOk (nb rfl) ?_);unfold nZ)
 simp only[tens]
 (simp only[Nat.reduceSub,Zl,zn,Nat.reduceAdd,zF];try simp only[af]);(simp only[go_sem,seval,reduceCtorEq,List.replicate])
 have g3:List.take 3 (tcs (t :: l))=[.sl t.labels.length (dv t.labels),.sl t.dims.length (dv t.dims),.sl t.data.length (dv t.data)]:=rfl
 have g4:List.drop 3 (tcs (t :: l))=tcs l:=rfl
 have hq:(((l.length+1:Nat):Int)-1).toNat=l.length:=by omega
 have htk:List.take (l.length*3) (tcs l)=tcs l:=pS
 have d0:(0:Int)<((l.length+1:Nat):Int):=by omega
 simp(disch:=omega) only[go_sem,seval,reduceCtorEq,g3,g4,hq,htk,d0]
 refine⟨by omega,⟨by omega,by omega⟩, ?_⟩
 have hz:jnTo ⟨kk,pp,nn⟩ wd t l 0=t:=rfl
 refine aN (l.length) (mkB 39 274877646624) (fun k=>[(17,.d (.int k))]) (fun k=>[(2,[.d (ints (jnTo ⟨kk,pp,nn⟩ wd t l k).labels),.d (ints (jnTo ⟨kk,pp,nn⟩ wd t l k).dims),.d (ints (jnTo ⟨kk,pp,nn⟩ wd t l k).data)])]) (h1:=by first | (simp only[go_sem,seval,reduceCtorEq,nz,na,n1,hz];first | done | rfl) | rfl) (h2:=by first | (simp only[go_sem,seval,reduceCtorEq,nz,na,n1,hz];first | done | rfl) | rfl) (hr:=fun k hk=> ?_)
 unfold mh
 obtain⟨j1,j2⟩:=hJ k
 by_cases hlt:k<l.length
 ·have d1:(k:Int)<l.length:=by omega
  have g5:=fj (zg hlt)
  obtain⟨u1,u2⟩:=hl _ (List.getElem_mem hlt)
  have hnx:=CL (r:=⟨kk,pp,nn⟩) (wd:=wd) (t:=t) hlt
  generalize jnTo ⟨kk,pp,nn⟩ wd t l k=A at*
  have hAz:=Sem.tF hr hw j1 j2
  have hUz:=Sem.tF hr hw u1 u2
  obtain⟨c1,c2,c3⟩:=Sem.Fs hr hw j1 u1 j2 u2 (au A.labels l[k].labels)
  have hjz:Sz 1048576 (au A.labels l[k].labels):=sz6 (mY j1.nd u1.nd) fun x hx=>(ba.1 hx).elim (j2 x) (u2 x)
  simp(disch:=omega) only[go_sem,seval,reduceCtorEq,d1,g5]
  refine⟨by omega, ?_⟩
  (refine zD (qx (a:=A.labels) (b:=l[k].labels) hAz.l.len hUz.l.len) ?_)
  simp only[go_sem,seval,reduceCtorEq]
  (refine zD (Fp hr hw hAz hUz hjz c1) ?_)
  simp(disch:=omega) only[go_sem,seval,reduceCtorEq]
  (refine Next.drop (mkB 39 274877646624) (by omega) (h1:= ?_) (h2:= ?_)<;>first | (simp only[go_sem,seval,reduceCtorEq,nz,na,n1,hnx];first | done | rfl) | rfl | skip)
 ·have d1:¬ (k:Int)<l.length:=by omega
  have e:=EK (r:=⟨kk,pp,nn⟩) (wd:=wd) (t:=t) (l:=l) (k:=k) (by omega)
  simp(disch:=omega) only[go_sem,seval,reduceCtorEq,d1,e]
  (refine zE ?_ ?_<;>try simp only[go_sem,seval,reduceCtorEq])
set_option maxRecDepth 100000
def bgTo (os:List Int) (L:List (List Int)) (xs:List Int) (k:Nat):List (List Int):=srt os :: (List.range xs.length).map fun i=>if xs.length-1-i<k then srt (bagE L xs (xs.length-1-i)) else []
def prTo (L:List (List Int)) (xs:List Int) (k:Nat):List Int:= -1 :: (List.range xs.length).map fun i=>if xs.length-1-i<k then (parE L xs (xs.length-1-i):Int) else 0
section
variable {os xs : List Int} {L : List (List Int)} {k d : Nat}
theorem zN:(bgTo os L xs k).length=xs.length+1:=by simp [bgTo]
theorem yA:(prTo L xs k).length=xs.length+1:=by simp [prTo]
theorem Df:bgTo os L xs 0=srt os :: List.replicate xs.length []:=by
 unfold bgTo
 congr 1
 apply List.ext_getElem
 ·simp
 intro i h1 h2
 simp
theorem Cb:prTo L xs 0= -1 :: List.replicate xs.length 0:=by
 unfold prTo
 congr 1
 apply List.ext_getElem
 ·simp
 intro i h1 h2
 simp
theorem FB:bgTo os L xs xs.length=cE os L xs:=by
 unfold bgTo cE
 congr 1
 refine List.map_congr_left fun i hi=>if_pos ?_
 have:=List.mem_range.1 hi
 omega
theorem Ec:prTo L xs xs.length=dQ L xs:=by
 unfold prTo dQ
 congr 1
 refine List.map_congr_left fun i hi=>if_pos ?_
 have:=List.mem_range.1 hi
 omega
theorem Dg (h:k<xs.length):bgTo os L xs (k+1)=(bgTo os L xs k).set (xs.length-k) (srt (bagE L xs k)):=by
 apply List.ext_getElem
 ·simp [bgTo]
 intro i h1 h2
 rw[List.getElem_set]
 cases i with
 | zero=>rw[if_neg (by omega)];rfl
 | succ i=>
  rw[zN]at h1
  simp only[bgTo,List.getElem_cons_succ,List.getElem_map,List.getElem_range]
  by_cases e:xs.length-k=i+1
  ·rw[if_pos e,if_pos (by omega),show xs.length-1-i=k by omega]
  ·rw[if_neg e]
   by_cases e2:xs.length-1-i<k
   ·rw[if_pos e2,if_pos (by omega)]
   ·rw[if_neg e2,if_neg (by omega)]
theorem Cc (h:k<xs.length):prTo L xs (k+1)=(prTo L xs k).set (xs.length-k) (parE L xs k:Int):=by
 apply List.ext_getElem
 ·simp [prTo]
 intro i h1 h2
 rw[List.getElem_set]
 cases i with
 | zero=>rw[if_neg (by omega)];rfl
 | succ i=>
  rw[yA]at h1
  simp only[prTo,List.getElem_cons_succ,List.getElem_map,List.getElem_range]
  by_cases e:xs.length-k=i+1
  ·rw[if_pos e,if_pos (by omega),show xs.length-1-i=k by omega]
  ·rw[if_neg e]
   by_cases e2:xs.length-1-i<k
   ·rw[if_pos e2,if_pos (by omega)]
   ·rw[if_neg e2,if_neg (by omega)]
def pkTo (L:List (List Int)) (xs:List Int) (k d:Nat):List Int:=(prTo L xs k).set (xs.length-k) (lX (bagE L xs k) xs d:Int)
theorem Ee:(pkTo L xs k d).length=xs.length+1:=by rw[pkTo,List.length_set,yA]
theorem Ce (h:k<xs.length):pkTo L xs k 0=prTo L xs k:=by
 unfold pkTo
 apply List.ext_getElem
 ·simp
 intro i h1 h2
 rw[List.getElem_set]
 split
 ·rename_i e
  subst e
  obtain⟨i,hi⟩:∃ i,xs.length-k=i+1:=⟨xs.length-k-1,by omega⟩
  simp only[prTo,hi,List.getElem_cons_succ,List.getElem_map,List.getElem_range]
  rw[if_neg (by omega)]
  rfl
 ·rfl
theorem Ed (h:has (bagE L xs k) (xs.getD (xs.length-1-d) 0)=true):pkTo L xs k (d+1)=(pkTo L xs k d).set (xs.length-k) ((d:Int)+1):=by
 unfold pkTo
 rw[List.set_set,lX,if_pos h]
 rfl
theorem Gv (h:has (bagE L xs k) (xs.getD (xs.length-1-d) 0)=false):pkTo L xs k (d+1)=pkTo L xs k d:=by
 unfold pkTo
 rw[lX,if_neg (by rw[h];decide)]
theorem Ef (h:k<xs.length) (hd:d=xs.length-1-k):pkTo L xs k d=prTo L xs (k+1):=by
 subst hd
 exact(Cc h).symm
theorem GN {B:List (List Int)} {i:Nat} (b:List Int) (h:i<B.length):(lsA B).take i++[.d (.sl b.length (dv b))]++(lsA B).drop (i+1)=lsA (B.set i b):=by
 unfold lsA
 rw[List.map_set,List.set_eq_take_append_cons_drop,if_pos (by simpa using h),List.append_assoc]
 rfl
end
theorem GM {B:List (List Int)} (a b:Nat):(((lsA B).drop a).take b).all trB=true:=by
 refine List.all_eq_true.2 fun x hx=> ?_
 obtain⟨y,_,rfl⟩:=List.mem_map.1 (List.mem_of_mem_drop (List.mem_of_mem_take hx))
 rfl
theorem G3 {l:List Int} {x:Int}:has (srt l) x=has l x:=by
 rw[Bool.eq_iff_iff,az,az,fk]
theorem DecompositionOf_o {N:Net} {xs:List Int} (h:NSz 1048576 N) (hL:Sz 1048576 xs) (ho:eM N xs=true):
  Does Tryz.prog 16 [netA N,.d (ints xs)] [] (.tup [.agg [.own 0 0 (xs.length+1),.own 1 0 (xs.length+1)],.d (.bool true)]) [some ⟨1,true,lsA (cE N.os (labL N.ts) xs)⟩,some ⟨1,true,iv (dQ (labL N.ts) xs)⟩]:=by
 have hxl:=uT ho
 have hok:bn N=true:=by simp only[eM,Bool.and_eq_true]at ho;exact ho.1
 have hl12:=(ay.1 hok).2.1
 have hlo:=xp (bS hok)
 have hll:=yO N.ts
 have hE:=kF h hL
 rw[ho]at hE
 have hol:=h.o.len
 have hsl:=li N.os
 (refine spec_of (by kernel_rfl) Tryz.func16 lB (fnOk (nb rfl) ?_);unfold eR)
 simp only[netA]
 (simp only[Nat.reduceSub,Zl,zn,Nat.reduceAdd,zF];try simp only[af]);(simp only[go_sem,seval,reduceCtorEq,List.replicate])
 (refine aV (hE) ?_ ?_ ?_;(focus (simp only[go_sem,seval,reduceCtorEq,netA];done));(first | rfl | (focus (simp only[go_sem];done))))
 simp(disch:=omega) only[go_sem,seval,reduceCtorEq]
 (repeat (refine And.intro (by omega) ?_))
 have q1:((xs.length:Int)+1).toNat=xs.length+1:=by omega
 have z1:Lift.bA (xs.length+1) [AV.nil]=.nil :: List.replicate xs.length .nil:=BL _
 have r1:List.replicate (xs.length+1) (0:Int)=0 :: List.replicate xs.length 0:=rfl
 have ic:∀ (x:Int) (l:List Int),iv (x :: l)=.d (.int x) :: iv l:=fun _ _=>rfl
 have hLn:∀ L:List (List Int),LOk L→L.length≤1048576→Does Tryz.prog 54 [netA N] [] (.d (lists (labL N.ts))) []:=fun _ _ _=>lu h
 have hLL:=lu h
 have d0:(0:Int)<((xs.length+1:Nat):Int):=by omega
 (refine zD (q4 (xs:=N.os) hol) ?_)
 simp(disch:=omega) only[go_sem,seval,reduceCtorEq,q1,z1,r1,ic,d0]
 (repeat (refine And.intro (by omega) ?_))
 (refine aV (hLL) ?_ ?_ ?_;(focus (simp only[go_sem,seval,reduceCtorEq,netA];done));(first | rfl | (focus (simp only[go_sem];done))))
 simp(disch:=omega) only[go_sem,seval,reduceCtorEq]
 refine dr (Wk.nilR 2 rfl) ?_
 have nr0:(List.replicate xs.length AV.nil).map nilC=List.replicate xs.length (.d (.sl 0 [])):=by rw[List.map_replicate];rfl
 have nr1:nilC (.d (.sl (srt N.os).length (dv (srt N.os))))=.d (.sl (srt N.os).length (dv (srt N.os))):=rfl
 simp only[go_sem,seval,reduceCtorEq,nilK,List.modify_succ_cons,List.modify_zero_cons,Option.map_some,List.map_cons,nr0,nr1]
 have hb0:lsA (bgTo N.os (labL N.ts) xs 0)=AV.d (.sl (srt N.os).length (dv (srt N.os))) :: List.replicate xs.length (.d (.sl 0 [])):=by
  rw[Df]
  unfold lsA
  rw[List.map_cons,List.map_replicate]
  rfl
 have hp0:iv (prTo (labL N.ts) xs 0)=AV.d (.int (-1)) :: iv (List.replicate xs.length 0):=by rw[Cb];rfl
 have hz0:bE (labL N.ts) xs 0=labL N.ts:=rfl
 rw[← hb0, ← hp0]
 have hbl:∀ k,(bgTo N.os (labL N.ts) xs k).length=xs.length+1:=fun _=>zN
 have hpl:∀ k d,(pkTo (labL N.ts) xs k d).length=xs.length+1:=fun _ _=>Ee
 refine aN (xs.length) (mkB 83 4835703278456317675576832) (fun k=>[(8,.d (lists (bE (labL N.ts) xs k))),(40,.d (.int k))]) (fun k=>[(2,lsA (bgTo N.os (labL N.ts) xs k)),(3,iv (prTo (labL N.ts) xs k))]) (h1:=by first | (simp only[go_sem,seval,reduceCtorEq,nz,na,n1,hz0];first | done | rfl) | rfl) (h2:=by first | (simp only[go_sem,seval,reduceCtorEq,nz,na,n1,hz0];first | done | rfl) | rfl) (hr:=fun k hk=> ?_)
 unfold et
 by_cases hlt:k<xs.length
 ·have d1:(k:Int)<xs.length:=by omega
  have g:xs[k]? =some xs[k]:=zg hlt
  have gd:xs.getD k 0=xs[k]:=ab hlt
  have hel:=pE (L:=labL N.ts) (xs:=xs) k
  have heo:=ox (xs:=xs) hlo k
  have he1:bE (labL N.ts) xs (k+1)=kL (bE (labL N.ts) xs k) xs[k]:=by rw[bE,gd]
  have hbe:bagE (labL N.ts) xs k=i5 (bE (labL N.ts) xs k) xs[k]:=by rw[bagE,gd]
  have hb1:=Dg (os:=N.os) (L:=labL N.ts) hlt
  have hp1:=Ce (L:=labL N.ts) hlt
  have hbk:=vm heo xs[k]
  have hc1:=i4 (L:=bE (labL N.ts) xs k) (x:=xs[k]) heo (by omega)
  rw[← hbe]at hc1 hbk
  have hsl2:=li (bagE (labL N.ts) xs k)
  have hq:(xs.length:Int)-k=((xs.length-k:Nat):Int):=by omega
  have hput:=GN (B:=bgTo N.os (labL N.ts) xs k) (i:=xs.length-k) (srt (bagE (labL N.ts) xs k)) (by rw[hbl];omega)
  rw[← hb1]at hput
  have hbl2:=hbl k
  have d2:((xs.length-k:Nat):Int)<((xs.length+1:Nat):Int):=by omega
  have hm1:(xs.length:Int)-1-0=(xs.length:Int)-1:=by omega
  simp(disch:=omega) only[go_sem,seval,reduceCtorEq,d1,g]
  (refine zC (hc1) ?_)
  simp(disch:=omega) only[go_sem,seval,reduceCtorEq]
  (refine zC (q4 (xs:=bagE (labL N.ts) xs k) (by omega)) ?_)
  simp(disch:=omega) only[go_sem,seval,reduceCtorEq]
  (refine zC (m6 (L:=bE (labL N.ts) xs k) (x:=xs[k]) heo (by omega)) ?_)
  simp(disch:=omega) only[go_sem,seval,reduceCtorEq,hq,d2,hbl2]
  refine⟨by omega,GM _ _, ?_⟩
  rw[hput, ← hp1]
  refine aN (xs.length-1-k) (mkB 83 2417849333386249135718400) (fun d=>[(12,.d (.int ((xs.length:Int)-1-d)))]) (fun d=>[(3,iv (pkTo (labL N.ts) xs k d))]) (h1:=by first | (simp only[go_sem,seval,reduceCtorEq,nz,na,n1,hm1];first | done | rfl) | rfl) (h2:=by first | (simp only[go_sem,seval,reduceCtorEq,nz,na,n1,hm1];first | done | rfl) | rfl) (hr:=fun d hd=> ?_)
  unfold eC
  have hpl2:=hpl k d
  by_cases hdt:d<xs.length-1-k
  ·have hv:(xs.length:Int)-1-d=((xs.length-1-d:Nat):Int):=by omega
   have hvb:xs.length-1-d<xs.length:=by omega
   have c1:((xs.length-1-d:Nat):Int)>k:=by omega
   have c2:((xs.length-1-d:Nat):Int)<xs.length:=by omega
   have g2:xs[xs.length-1-d]? =some (xs.getD (xs.length-1-d) 0):=by rw[ab hvb];exact zg hvb
   have e7:((xs.length-1-d:Nat):Int)-1=(xs.length:Int)-1-((d:Int)+1):=by omega
   have e8:(xs.length:Int)-((xs.length-1-d:Nat):Int)=(d:Int)+1:=by omega
   have hh:=G3 (l:=bagE (labL N.ts) xs k) (x:=xs.getD (xs.length-1-d) 0)
   have hy:=Ed (L:=labL N.ts) (xs:=xs) (k:=k) (d:=d)
   have hn:=Gv (L:=labL N.ts) (xs:=xs) (k:=k) (d:=d)
   rw[hv]
   generalize xs.length-1-d=v at*
   simp(disch:=omega) only[go_sem,seval,reduceCtorEq,c1,c2,g2]
   (refine zC (cm (xs:=srt (bagE (labL N.ts) xs k)) (x:=xs.getD v 0) (by omega)) ?_)
   rw[hh]
   cases hb:has (bagE (labL N.ts) xs k) (xs.getD v 0)
   ·have e:=hn hb
    simp(disch:=omega) only[go_sem,seval,reduceCtorEq]
    (refine Next.drop (mkB 83 2417849333386249135718400) (by omega) (h1:= ?_) (h2:= ?_)<;>first | (simp only[go_sem,seval,reduceCtorEq,nz,na,n1,e,e7];first | done | rfl) | rfl | skip)
   ·have e:=hy hb
    have hset:List.take (xs.length-k) (pkTo (labL N.ts) xs k d)++[(d:Int)+1]++List.drop (xs.length-k+1) (pkTo (labL N.ts) xs k d)=pkTo (labL N.ts) xs k (d+1):=by
     rw[e,List.set_eq_take_append_cons_drop,if_pos (by rw[hpl];omega),List.append_assoc]
     rfl
    simp(disch:=omega) only[go_sem,seval,reduceCtorEq,hq,d2,e8,hpl2]
    (repeat (refine And.intro (by omega) ?_))
    (refine Next.drop (mkB 83 2417849333386249135718400) (by omega) (h1:= ?_) (h2:= ?_)<;>first | (simp only[go_sem,seval,reduceCtorEq,nz,na,n1,hset,e7];first | done | rfl) | rfl | skip)
  ·have c1:¬ (xs.length:Int)-1-d>k:=by omega
   have e:=Ef (L:=labL N.ts) hlt (d:=d) (by omega)
   simp(disch:=omega) only[go_sem,seval,reduceCtorEq,c1,e]
   (refine Next.drop (mkB 83 4835703278456317675576832) (by omega) (h1:= ?_) (h2:= ?_)<;>first | (simp only[go_sem,seval,reduceCtorEq,nz,na,n1,he1];first | done | rfl) | rfl | skip)
 ·have d1:¬ (k:Int)<xs.length:=by omega
  obtain rfl:k=xs.length:=by omega
  simp(disch:=omega) only[go_sem,seval,reduceCtorEq,d1,FB,Ec]
  (refine zE ?_ ?_<;>try simp only[go_sem,seval,reduceCtorEq])
set_option maxRecDepth 100000
theorem C3 (c:List Ten) (i:Nat):(rowD c).drop (i*3)=rowD (c.drop i):=by
 rcases Nat.lt_or_ge i c.length with h | h
 ·conv=>lhs;rw[← List.take_append_drop i c,mG]
  rw[List.drop_left' (by rw[eG,List.length_take];omega)]
 ·rw[List.drop_eq_nil_of_le h,List.drop_eq_nil_of_le (by rw[eG];omega)]
  rfl
theorem C2 (c:List Ten) (i:Nat):(rowD c).take (i*3)=rowD (c.take i):=by
 rcases Nat.lt_or_ge i c.length with h | h
 ·conv=>lhs;rw[← List.take_append_drop i c,mG]
  rw[List.take_left' (by rw[eG,List.length_take];omega)]
 ·rw[zt h,zt (by rw[eG];omega)]
theorem yl {c:List Ten} {i:Nat} (t:Ten) (h:i<c.length):(rowD c).take (i*3)++[.d (.sl t.labels.length (dv t.labels)),.d (.sl t.dims.length (dv t.dims)),.d (.sl t.data.length (dv t.data))]++(rowD c).drop (i*3+3)=rowD (c.set i t):=by
 rw[C2,show i*3+3=(i+1)*3 by omega,C3,List.set_eq_take_append_cons_drop,if_pos h,mG,List.append_assoc]
 rfl
theorem Gk (c:List Ten) (a b:Nat):(((rowD c).drop a).take b).all trB=true:=by
 refine List.all_eq_true.2 fun x hx=> ?_
 obtain⟨y,_,rfl⟩:=List.mem_map.1 (List.mem_of_mem_drop (List.mem_of_mem_take hx))
 rfl
theorem yk:∀ R,(Lift.bA R [.nil,.nil,.nil]).map nilC=rowD (List.replicate R ⟨[],[],[]⟩)
 | 0=>rfl
 | R+1=>by
  have ih:=yk R
  have e:Lift.bA (R+1) [.nil,.nil,.nil]=[.nil,.nil,.nil]++Lift.bA R [.nil,.nil,.nil]:=by simp [Lift.bA,List.replicate_succ]
  rw[e,List.map_append,ih,List.replicate_succ,show (⟨[],[],[]⟩:Ten) :: List.replicate R ⟨[],[],[]⟩=[⟨[],[],[]⟩]++List.replicate R ⟨[],[],[]⟩from rfl,mG]
  rfl
def msgL (N:Net) (wd:Nat) (B:List (List Int)) (P:List Int) (d:Nat):List Ten:=(List.range B.length).map (Sem.msgF N wd B P d)
def n4 (N:Net) (B:List (List Int)) (k i:Nat):List Ten:=(N.ts.take i).filter fun t=>decide (bZ B t.labels=k)
def chTo (P:List Int) (k j:Nat):List Nat:=(List.range (k+1+j)).filter fun c=>decide (k<c)&&decide (P.getD c 0=k)
section
variable {N : Net} {wd d k i j : Nat} {B : List (List Int)} {P : List Int}
theorem yL:(msgL N wd B P d).length=B.length:=by simp [msgL]
theorem Cs:msgL N wd B P 0=List.replicate B.length ⟨[],[],[]⟩:=by
 apply List.ext_getElem
 ·simp [msgL]
 intro i h1 h2
 simp [msgL,Sem.msgF]
theorem Bh (h:i<B.length):(msgL N wd B P d)[i]? =some (Sem.msgF N wd B P d i):=by simp [msgL,h]
theorem Ct (h:d<B.length):msgL N wd B P (d+1)=(msgL N wd B P d).set (B.length-1-d) (Sem.msgK N wd B P (Sem.msgF N wd B P d) (B.length-1-d)):=by
 apply List.ext_getElem
 ·simp [msgL]
 intro i h1 h2
 rw[List.getElem_set]
 simp only[msgL,List.getElem_map,List.getElem_range,Sem.msgF]
 by_cases e:i=B.length-1-d
 ·rw[if_pos e,if_pos e.symm]
 ·rw[if_neg e,if_neg (Ne.symm e)]
theorem CQ (h:i<N.ts.length) (e:bZ B N.ts[i].labels=k):n4 N B k (i+1)=n4 N B k i++[N.ts[i]]:=by
 unfold n4
 rw[bb h,List.filter_append,List.filter_cons_of_pos (by rw[decide_eq_true_eq];exact e)]
 rfl
theorem EQ (h:i<N.ts.length) (e:bZ B N.ts[i].labels≠k):n4 N B k (i+1)=n4 N B k i:=by
 unfold n4
 rw[bb h,List.filter_append,List.filter_cons_of_neg (by rw[decide_eq_true_eq];exact e)]
 simp
theorem CS (h:N.ts.length≤i):n4 N B k i=Sem.gT N B k:=by rw[n4,zt h];rfl
theorem CR:(n4 N B k i).length≤N.ts.length:=by
 unfold n4
 have h1:=List.length_filter_le (fun t:Ten=>decide (bZ B t.labels=k)) (N.ts.take i)
 have h2:=List.length_take_le i N.ts
 have h3:=List.length_take_le' i N.ts
 omega
theorem Dc:chTo P k 0=[]:=List.filter_eq_nil_iff.2 fun c hc=>by
 have:=List.mem_range.1 hc
 rw[decide_eq_false (by omega),Bool.false_and]
 exact Bool.false_ne_true
theorem Fu (e:P.getD (k+1+j) 0=k):chTo P k (j+1)=chTo P k j++[k+1+j]:=by
 unfold chTo
 rw[show k+1+(j+1)=k+1+j+1 by omega,List.range_succ,List.filter_append,List.filter_cons_of_pos (by rw[decide_eq_true (by omega),decide_eq_true e];rfl)]
 rfl
theorem Hq (e:P.getD (k+1+j) 0≠k):chTo P k (j+1)=chTo P k j:=by
 unfold chTo
 rw[show k+1+(j+1)=k+1+j+1 by omega,List.range_succ,List.filter_append,List.filter_cons_of_neg (by rw[decide_eq_false e,Bool.and_false];exact Bool.false_ne_true)]
 simp
theorem Fw (h:k+1+j=B.length):chTo P k j=Sem.fc P B.length k:=by rw[chTo,h];rfl
theorem Fv:(chTo P k j).length≤k+1+j:=by
 unfold chTo
 have h1:=List.length_filter_le (fun c=>decide (k<c)&&decide (P.getD c 0=k)) (List.range (k+1+j))
 simpa using h1
def lsH (N:Net) (wd:Nat) (B:List (List Int)) (k i:Nat):List Ten:=Sem.bB N.rg wd :: n4 N B k i
def lsC (N:Net) (wd:Nat) (B:List (List Int)) (P:List Int) (d k j:Nat):List Ten:=Sem.bB N.rg wd :: (Sem.gT N B k++(chTo P k j).map (Sem.msgF N wd B P d))
theorem GI (h:i<N.ts.length) (e:bZ B N.ts[i].labels=k):lsH N wd B k (i+1)=lsH N wd B k i++[N.ts[i]]:=by rw[lsH,CQ h e];rfl
theorem II (h:i<N.ts.length) (e:bZ B N.ts[i].labels≠k):lsH N wd B k (i+1)=lsH N wd B k i:=by rw[lsH,EQ h e];rfl
theorem GJ (h:N.ts.length≤i):lsH N wd B k i=lsC N wd B P d k 0:=by rw[lsH,CS h,lsC,Dc,List.map_nil,List.append_nil]
theorem IJ:(lsH N wd B k i).length≤N.ts.length+1:=by
 have:=CR (N:=N) (B:=B) (k:=k) (i:=i)
 simp only[lsH,Zl]
 omega
theorem GK (e:P.getD (k+1+j) 0=k):lsC N wd B P d k (j+1)=lsC N wd B P d k j++[Sem.msgF N wd B P d (k+1+j)]:=by
 rw[lsC,Fu e,List.map_append, ← List.append_assoc]
 rfl
theorem IK (e:P.getD (k+1+j) 0≠k):lsC N wd B P d k (j+1)=lsC N wd B P d k j:=by rw[lsC,Hq e];rfl
theorem GL (h:k+1+j=B.length):lsC N wd B P d k j=Sem.bB N.rg wd :: (Sem.gT N B k++(Sem.fc P B.length k).map (Sem.msgF N wd B P d)):=by rw[lsC,Fw h]
theorem IL:(lsC N wd B P d k j).length≤N.ts.length+1+(k+1+j):=by
 have h1:=List.length_filter_le (fun t:Ten=>decide (bZ B t.labels=k)) N.ts
 have h2:=Fv (P:=P) (k:=k) (j:=j)
 simp only[lsC,Sem.gT,Zl,List.length_append,List.length_map]
 omega
end
attribute [go_sem] yL
theorem DecompositionValue_o {N:Net} (hN:Gen6 N) {wd:Nat} (hw:ah N.rg=wd) {B:List (List Int)} {P:List Int} (hdo:DecOk N B P) (hD:DSz 1048576 B P):
  Does Tryz.prog 21 [netA N,decA B P] [] (.tup [ownT 0 (Sem.nvR N wd),.d (.bool true)]) (stoF (Sem.nvR N wd)):=by
 have hz:=hN.sz
 have hok:=gS hz hD
 rw[vb hdo]at hok
 have hdec:=hdo
 obtain⟨_,⟨⟨hB1,hB40⟩,hPl,hb⟩,hos,hh,htp⟩:=hdec
 obtain⟨v1,v2,v3,v4⟩:=Sem.D7 hN hw hdo
 have hfin:=FinishTensor_o hN hw v1 v2 v3
 rw[v4]at hfin
 (refine spec_of (by kernel_rfl) Tryz.func21 iu (fnOk (nb rfl) ?_);unfold dD)
 simp only[netA,decA,lists,tens]
 (simp only[Nat.reduceSub,Zl,zn,Nat.reduceAdd,zF];try simp only[af]);(simp only[go_sem,seval,reduceCtorEq,List.replicate])
 (refine aV (hok) ?_ ?_ ?_;(focus (simp only[go_sem,seval,reduceCtorEq,netA,decA,lists,tens];done));(first | rfl | (focus (simp only[go_sem];done))))
 simp(disch:=omega) only[go_sem,seval,reduceCtorEq]
 (repeat (refine And.intro (by omega) ?_))
 refine dr (Wk.nilR 3 rfl) ?_
 simp only[go_sem,seval,reduceCtorEq,nilK,List.modify_succ_cons,List.modify_zero_cons,Option.map_some,yk]
 have hr:=(ay.1 hN.ok).1
 have hr':ae ⟨N.k,N.p,N.n⟩=true:=hr
 have hw':ah ⟨N.k,N.p,N.n⟩=wd:=hw
 have hwb:=wd6 hr hw
 have hnl:=(ay.1 hN.ok).2.1
 have hzr:msgL N wd B P 0=List.replicate B.length ⟨[],[],[]⟩:=Cs
 have hml:∀ d,(msgL N wd B P d).length=B.length:=fun d=>yL
 have e0:(B.length:Int)-1-0=(B.length:Int)-1:=by omega
 refine aN (B.length) (mkB 112 40564819207303340847894368369952) (fun d=>[(7,.d (.int ((B.length:Int)-1-d)))]) (fun d=>[(3,rowD (msgL N wd B P d))]) (h1:=by first | (simp only[go_sem,seval,reduceCtorEq,nz,na,n1,hzr,e0];first | done | rfl) | rfl) (h2:=by first | (simp only[go_sem,seval,reduceCtorEq,nz,na,n1,hzr,e0];first | done | rfl) | rfl) (hr:=fun d hd=> ?_)
 unfold di
 by_cases hlt:d<B.length
 ·have hinv:=Sem.xk (wd:=wd) (hr:=hr) (hw:=hw) hN hdo d (by omega)
  have hnx:=Ct (N:=N) (wd:=wd) (P:=P) hlt
  have hq:(B.length:Int)-1-d=((B.length-1-d:Nat):Int):=by omega
  have hM:∀ c,B.length-1-d<c→c<B.length→Sem.TV N.rg wd Sem.d6 (Sem.msgF N wd B P d c)∧Sem.L6 (Sem.msgF N wd B P d c).labels:=fun c h1 h2=>by
   obtain⟨a,b⟩:=hinv.tv c (by omega) h2
   exact⟨a,fun x hx=>Sem.wl hN x (b x hx)⟩
  have hdq:d=B.length-1-(B.length-1-d):=by omega
  have hqb:B.length-1-d<B.length:=by omega
  rw[hq]
  generalize B.length-1-d=q at*
  have d1:(q:Int)≥0:=by omega
  simp(disch:=omega) only[go_sem,seval,reduceCtorEq,d1]
  (refine zC (s9 hr' hw' hwb) ?_)
  simp(disch:=omega) only[go_sem,seval,reduceCtorEq]
  have hl0:(lsH N wd B q 0).length=1:=rfl
  have hr0:rowD (lsH N wd B q 0)=[.d (ints (Sem.bB N.rg wd).labels),.d (ints (Sem.bB N.rg wd).dims),.d (ints (Sem.bB N.rg wd).data)]:=rfl
  refine aN (N.ts.length) (mkB 112 9006666678797312) (fun i=>[(8,.own 4 0 (lsH N wd B q i).length),(38,.d (.int i))]) (fun i=>[(4,rowD (lsH N wd B q i))]) (h1:=by first | (simp only[go_sem,seval,reduceCtorEq,nz,na,n1,hl0,hr0];first | done | rfl) | rfl) (h2:=by first | (simp only[go_sem,seval,reduceCtorEq,nz,na,n1,hl0,hr0];first | done | rfl) | rfl) (hr:=fun i hi=> ?_)
  unfold dj
  have hll:=IJ (N:=N) (wd:=wd) (B:=B) (k:=q) (i:=i)
  by_cases hi:i<N.ts.length
  ·have d2:(i:Int)<N.ts.length:=by omega
   have g3:=fj (zg hi)
   have hst:=hz.t N.ts[i] (List.getElem_mem hi)
   simp(disch:=omega) only[go_sem,seval,reduceCtorEq,d2,g3]
   refine⟨by omega, ?_⟩
   (refine aV (wz (B:=B) (P:=P) (l:=N.ts[i].labels) hD hst.l.len) ?_ ?_ ?_;(focus (simp only[go_sem,seval,reduceCtorEq,decA,lists];done));(first | rfl | (focus (simp only[go_sem];done))))
   by_cases e:bZ B N.ts[i].labels=q
   ·have e2:=GI (wd:=wd) hi e
    have c:((bZ B N.ts[i].labels)==(q:Int))=true:=by rw[beq_iff_eq];exact e
    simp(disch:=omega) only[go_sem,seval,reduceCtorEq,c]
    (repeat (refine And.intro (by omega) ?_))
    (refine Next.drop (mkB 112 9006666678797312) (by omega) (h1:= ?_) (h2:= ?_)<;>first | (simp only[go_sem,seval,reduceCtorEq,nz,na,n1,e2,vY,List.length_append];first | done | rfl) | rfl | skip)
   ·have e2:=II (wd:=wd) hi e
    have c:((bZ B N.ts[i].labels)==(q:Int))=false:=by rw[beq_eq_false_iff_ne];exact e
    simp(disch:=omega) only[go_sem,seval,reduceCtorEq,c]
    (refine Next.drop (mkB 112 9006666678797312) (by omega) (h1:= ?_) (h2:= ?_)<;>first | (simp only[go_sem,seval,reduceCtorEq,nz,na,n1,e2];first | done | rfl) | rfl | skip)
  ·have d2:¬ (i:Int)<N.ts.length:=by omega
   have e2:=GJ (N:=N) (wd:=wd) (B:=B) (k:=q) (i:=i) (P:=P) (d:=d) (by omega)
   simp(disch:=omega) only[go_sem,seval,reduceCtorEq,d2,e2]
   have hcl0:(lsC N wd B P d q 0).length=(lsC N wd B P d q 0).length:=rfl
   have eq0:(q:Int)+1+0=(q:Int)+1:=by omega
   refine aN (B.length-1-q) (mkB 112 75557827697117304455168) (fun j=>[(8,.own 4 0 (lsC N wd B P d q j).length),(11,.d (.int ((q:Int)+1+j)))]) (fun j=>[(4,rowD (lsC N wd B P d q j))]) (h1:=by first | (simp only[go_sem,seval,reduceCtorEq,nz,na,n1,eq0];first | done | rfl) | rfl) (h2:=by first | (simp only[go_sem,seval,reduceCtorEq,nz,na,n1,eq0];first | done | rfl) | rfl) (hr:=fun j hj=> ?_)
   unfold dn
   have hcl:=IL (N:=N) (wd:=wd) (B:=B) (P:=P) (d:=d) (k:=q) (j:=j)
   have hqj:(q:Int)+1+j=((q+1+j:Nat):Int):=by omega
   rw[hqj]
   by_cases hj:q+1+j<B.length
   ·have d3:((q+1+j:Nat):Int)<B.length:=by omega
    have d4:((q+1+j:Nat):Int)<P.length:=by omega
    have gP:P[q+1+j]? =some (P.getD (q+1+j) 0):=by rw[ab (show q+1+j<P.length by omega)];exact zg (by omega)
    have gM:=ym (Bh (N:=N) (wd:=wd) (B:=B) (P:=P) (d:=d) hj)
    have en:((q+1+j:Nat):Int)+1=(q:Int)+1+((j:Int)+1):=by omega
    have hml2:=hml d
    by_cases e:P.getD (q+1+j) 0=q
    ·have e3:=GK (N:=N) (wd:=wd) (B:=B) (d:=d) e
     have c:((P.getD (q+1+j) 0)==(q:Int))=true:=by rw[beq_iff_eq];exact e
     generalize q+1+j=u at*
     simp(disch:=omega) only[go_sem,seval,reduceCtorEq,d3,d4,gP,c,gM,eG,hml2]
     (repeat (refine And.intro (by omega) ?_))
     (refine Next.drop (mkB 112 75557827697117304455168) (by omega) (h1:= ?_) (h2:= ?_)<;>first | (simp only[go_sem,seval,reduceCtorEq,nz,na,n1,e3,vY,List.length_append,en];first | done | rfl) | rfl | skip)
    ·have e3:=IK (N:=N) (wd:=wd) (B:=B) (d:=d) e
     have c:((P.getD (q+1+j) 0)==(q:Int))=false:=by rw[beq_eq_false_iff_ne];exact e
     generalize q+1+j=u at*
     simp(disch:=omega) only[go_sem,seval,reduceCtorEq,d3,d4,gP,c]
     (refine Next.drop (mkB 112 75557827697117304455168) (by omega) (h1:= ?_) (h2:= ?_)<;>first | (simp only[go_sem,seval,reduceCtorEq,nz,na,n1,e3,en];first | done | rfl) | rfl | skip)
   ·have d3:¬ ((q+1+j:Nat):Int)<B.length:=by omega
    have e3:=GL (N:=N) (wd:=wd) (B:=B) (P:=P) (d:=d) (k:=q) (j:=j) (by omega)
    have hcl2:=hcl
    rw[e3]at hcl2
    have hus:∀ u∈Sem.gT N B q++(Sem.fc P B.length q).map (Sem.msgF N wd B P d),Sem.TV N.rg wd Sem.d6 u∧Sem.L6 u.labels:=fun u hu=>by
     rcases List.mem_append.1 hu with hu | hu
     ·have hu':=(List.mem_filter.1 hu).1
      exact⟨Sem.zZ hw (hN.six u hu') ((ay.1 hN.ok).2.2.1 u hu'),(hN.six u hu').bd⟩
     ·obtain⟨c,hc,rfl⟩:=List.mem_map.1 hu
      obtain⟨c1,c2⟩:=List.mem_filter.1 hc
      simp only[Bool.and_eq_true,decide_eq_true_eq]at c2
      exact hM c c2.1 (List.mem_range.1 c1)
    have hjA:=CK (kk:=N.k) (pp:=N.p) (nn:=N.n) hr' hw' (Sem.iC hr hw) (fun x hx=>by cases hx) hus (by simp only[Zl]at hcl2;omega)
    have hjK:Sem.j4 ⟨N.k,N.p,N.n⟩ wd (Sem.bB N.rg wd) (Sem.gT N B q++(Sem.fc P B.length q).map (Sem.msgF N wd B P d))=Sem.cC N wd B P (Sem.msgF N wd B P d) q:=rfl
    rw[hjK]at hjA
    obtain⟨jt,jl,_⟩:=Sem.yX (hr:=hr) (hw:=hw) (B:=B) (P:=P) (M:=Sem.msgF N wd B P d) (k:=q) hN fun c h1 h2=>(hM c h1 h2).1
    have j6:Sem.L6 (Sem.cC N wd B P (Sem.msgF N wd B P d) q).labels:=fun x hx=>by
     obtain⟨u,hu,hxu⟩:=(jl x).1 hx
     exact(hus u hu).2 x hxu
    have jz:=Sem.tF hr hw jt j6
    have hmk:Sem.msgK N wd B P (Sem.msgF N wd B P d) q=if q=0 then Sem.cC N wd B P (Sem.msgF N wd B P d) q else conR N.rg wd (Sem.cC N wd B P (Sem.msgF N wd B P d) q) (Sem.bB N.rg wd) (B.getD (P.getD q 0).toNat []):=rfl
    have hqm:q<(msgL N wd B P d).length:=by rw[hml];exact hqb
    have hml2:=hml d
    have e7:(q:Int)-1=(B.length:Int)-1-((d:Int)+1):=by omega
    have htr:=Gk (msgL N wd B P d)
    generalize Sem.cC N wd B P (Sem.msgF N wd B P d) q=J at*
    rw[e3]
    generalize Sem.gT N B q++(Sem.fc P B.length q).map (Sem.msgF N wd B P d)=U at*
    have hfl:List.take ((U.length+1)*3) (tcs (Sem.bB N.rg wd :: U))=tcs (Sem.bB N.rg wd :: U):=pS (ts:=Sem.bB N.rg wd :: U)
    simp(disch:=omega) only[go_sem,seval,reduceCtorEq,d3]
    refine GH.mk (Wk.freeze 4 (nb rfl) rfl (sB _) rfl rfl) ?_
    simp only[go_sem,seval,reduceCtorEq]
    (refine aV (hjA) ?_ ?_ ?_;(focus (simp only[go_sem,seval,reduceCtorEq,tens,hfl];done));(first | rfl | (focus (simp only[go_sem];done))))
    simp(disch:=omega) only[go_sem,seval,reduceCtorEq]
    by_cases h0:q=0
    ·have c:¬ (q:Int)>0:=by omega
     rw[hmk,if_pos h0]at hnx
     have hput:=yl (c:=msgL N wd B P d) (i:=q) J hqm
     simp(disch:=omega) only[go_sem,seval,reduceCtorEq,c,eG,hml2]
     (repeat (refine And.intro (by omega) ?_))
     refine⟨htr _ _, ?_⟩
     rw[hput]
     (refine Next.drop (mkB 112 40564819207303340847894368369952) (by omega) (h1:= ?_) (h2:= ?_)<;>first | (simp only[go_sem,seval,reduceCtorEq,nz,na,n1,hnx,e7];first | done | rfl) | rfl | skip)
    ·have c:(q:Int)>0:=by omega
     rw[hmk,if_neg h0]at hnx
     obtain⟨p1,p2⟩:=(hb q hqb).1.2 (by omega)
     obtain⟨p,hp⟩:=Int.eq_ofNat_of_zero_le p1
     have hpb:p<B.length:=by omega
     have eB:B.getD (P.getD q 0).toNat []=B[p]:=by rw[hp,Int.toNat_natCast,fr hpb]
     have gP:P[q]? =some (p:Int):=by rw[← hp,ab (show q<P.length by omega)];exact zg (by omega)
     have gB:B[p]? =some B[p]:=zg hpb
     have d5:(q:Int)<P.length:=by omega
     have d6:(p:Int)<B.length:=by omega
     rw[eB]at hnx
     have hkz:=hD.e B[p] (List.getElem_mem hpb)
     obtain⟨s1,s2,s3⟩:=Sem.Fs hr hw jt (Sem.iC hr hw (dim:=Sem.d6)) j6 (fun x hx=>by cases hx) B[p]
     have hsum:=SumLabels_d (kk:=N.k) (pp:=N.p) (nn:=N.n) hr' hw' jz (B3 hr hw) hkz s1
     have hput:=yl (c:=msgL N wd B P d) (i:=q) (conR N.rg wd J (Sem.bB N.rg wd) B[p]) hqm
     simp(disch:=omega) only[go_sem,seval,reduceCtorEq,c,gP,gB,d5,d6]
     rw[show N.rg=⟨N.k,N.p,N.n⟩from rfl]at hput hnx
     (refine zC (hsum) ?_)
     simp(disch:=omega) only[go_sem,seval,reduceCtorEq,eG,hml2]
     (repeat (refine And.intro (by omega) ?_))
     refine⟨htr _ _, ?_⟩
     rw[hput]
     (refine Next.drop (mkB 112 40564819207303340847894368369952) (by omega) (h1:= ?_) (h2:= ?_)<;>first | (simp only[go_sem,seval,reduceCtorEq,nz,na,n1,hnx,e7];first | done | rfl) | rfl | skip)
 ·have d1:¬ (B.length:Int)-1-d≥0:=by omega
  obtain rfl:d=B.length:=by omega
  have g3:=ym (Bh (N:=N) (wd:=wd) (B:=B) (P:=P) (d:=B.length) (i:=0) (by omega))
  have d2:(0:Int)<B.length:=by omega
  have hml2:=hml B.length
  generalize Sem.msgF N wd B P B.length 0=T at*
  generalize Sem.nvR N wd=V at*
  have g30:List.take 3 (rowD (msgL N wd B P B.length))=[.d (ints T.labels),.d (ints T.dims),.d (ints T.data)]:=g3
  simp(disch:=omega) only[go_sem,seval,reduceCtorEq,d1,d2,eG,hml2,g30]
  refine⟨by omega, ?_⟩
  (refine dP (hfin) ?_ ?_ ?_;(focus (simp only[go_sem,seval,reduceCtorEq,netA,tens];done));(first | rfl | (focus (simp only[go_sem];done))))
  simp(disch:=omega) only[go_sem,seval,reduceCtorEq]
  (refine zE ?_ ?_<;>try simp only[go_sem,seval,reduceCtorEq])
theorem DecompositionValue_d {N:Net} (hN:Gen6 N) {wd:Nat} (hw:ah N.rg=wd) {B:List (List Int)} {P:List Int} (hdo:DecOk N B P) (hD:DSz 1048576 B P):
  Does Tryz.prog 21 [netA N,decA B P] [] (.tup [tenA (Sem.nvR N wd),.d (.bool true)]) []:=uX (DecompositionValue_o hN hw hdo hD)
end Go.Proofs.YtjfmckhbmdjnpaaGreat
