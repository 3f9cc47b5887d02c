/-
 Contracts: lists of labels, buckets, eliminations. No condition.
-/
import Derived.Test.YtjfmckhbmdjnpaaGreatMgDecompositionsA
import Derived.Test.YtjfmckhbmdjnpaaGreatCoB
import Derived.Test.YtjfmckhbmdjnpaaGreatNetC
import Derived.Test.YtjfmckhbmdjnpaaGreatLiftI
set_option linter.unusedSimpArgs false
set_option linter.unusedVariables false
namespace Go.Proofs.YtjfmckhbmdjnpaaGreat
open Go.RowKit Go.Lift Plain
set_option maxRecDepth 100000
def ldv (L:List (List Int)):List D:=L.map ints
def lists (L:List (List Int)):D:=.sl L.length (ldv L)
def lsA (L:List (List Int)):List AV:=L.map fun l=>.d (ints l)
section
variable {L M : List (List Int)} {l : List Int} {k : Nat}
theorem qi:(ldv L).length=L.length:=by simp [ldv]
theorem GO (i:Nat):(ldv L)[i]? =L[i]?.map ints:=by simp [ldv]
theorem Bl:(lsA L).length=L.length:=by simp [lsA]
theorem tg:lsA []=[]:=nr rfl
theorem Ey:lsA L++[.d (.sl l.length (dv l))]=lsA (L++[l]):=by simp [lsA,ints]
theorem ff:cY (lsA L)=some (ldv L):=by
 induction L with
 | nil=>rfl
 | cons x l ih=>simp only[lsA,ldv,List.map_cons,cY,qM]at ih ⊢;rw[ih]
theorem Gn (ρ:Nat→Option Nat):rnL ρ (lsA L)=lsA L:=by
 induction L with
 | nil=>rfl
 | cons x l ih=>simp only[lsA,List.map_cons,rnL,rn]at ih ⊢;rw[ih]
theorem yN (k e:Nat) (ls:List D):mapL (fzG k e ls) (lsA L)=lsA L:=by
 rw[dz,lsA,List.map_map]
 exact List.map_congr_left fun x _=>rfl
theorem Aj (k e:Nat) (ls:List D) (xs:List Int):mapL (fzG k e ls) (iv xs)=iv xs:=by
 rw[dz,iv,List.map_map]
 exact List.map_congr_left fun x _=>rfl
end
attribute [go_sem] lists qi GO Bl Gn ff yN Aj Ey
def labL (ts:List Ten):List (List Int):=ts.map Ten.labels
theorem CA {ts:List Ten} {k:Nat} (h:k<ts.length):labL (ts.take (k+1))=labL (ts.take k)++[ts[k].labels]:=by rw[labL,bb h,List.map_append];rfl
theorem xp {ts:List Ten} (h:cM ts):LOk (labL ts):=fun l hl=>by
 obtain⟨t,ht,rfl⟩:=List.mem_map.1 hl
 have hax:=h t ht
 refine⟨bX hax,fun x hx=> ?_⟩
 obtain⟨k,hk,rfl⟩:=List.mem_iff_getElem.1 hx
 have:=hax.2.2 k hk
 unfold axAt at this
 rw[ab hk]at this
 omega
theorem AN {xs:List Int} (h:xs.length≤1099511627776):Does Tryz.prog 72 [.d (ints xs)] [] (.d (ints xs)) []:=(dU h).fzI
theorem qx {a b:List Int} (ha:a.length≤1048576) (hb:b.length≤1048576):Does Tryz.prog 86 [.d (ints a),.d (ints b)] [] (.d (ints (au a b))) []:=(lC ha hb).fzI
theorem x4 {xs:List Int} {x:Int} (h:xs.length≤1099511627776):Does Tryz.prog 107 [.d (ints xs),.d (.int x)] [] (.d (ints (xs.filter (· !=x)))) []:=(x5 h).fzI
theorem xm {N:Net} (h:NSz 1048576 N):Does Tryz.prog 54 [netA N] [] (.own 0 0 N.ts.length) [some ⟨1,true,lsA (labL N.ts)⟩]:=by
 have hnl:=h.l
 (refine spec_of (by kernel_rfl) Tryz.func54 qr (fnOk (nb rfl) ?_);unfold ka)
 (simp only[Nat.reduceSub,Zl,zn,Nat.reduceAdd,zF];try simp only[af]);(simp only[go_sem,seval,reduceCtorEq,List.replicate])
 (refine dr (Wk.nilE 3 1 _ _ rfl) ?_;simp only[go_sem,seval,reduceCtorEq])
 refine aN (N.ts.length) (mkB 21 1047584) (fun k=>[(3,.own 1 0 k),(9,.d (.int k))]) (fun k=>[(1,lsA (labL (N.ts.take k)))]) (h1:=by first | (simp only[go_sem,seval,reduceCtorEq,nz,na,n1,List.take_zero,labL,List.map_nil,tg];first | done | rfl) | rfl) (h2:=by first | (simp only[go_sem,seval,reduceCtorEq,nz,na,n1,List.take_zero,labL,List.map_nil,tg];first | done | rfl) | rfl) (hr:=fun k hk=> ?_)
 unfold ij
 have htl:(labL (N.ts.take k)).length=k:=by simp [labL];omega
 by_cases hlt:k<N.ts.length
 ·have d1:(k:Int)<N.ts.length:=by omega
  have g3:=fj (zg hlt)
  have hst:=h.t N.ts[k] (List.getElem_mem hlt)
  simp(disch:=omega) only[go_sem,seval,reduceCtorEq,d1,g3]
  (repeat (refine And.intro (by omega) ?_))
  (refine zC (AN (xs:=N.ts[k].labels) hst.l.up.len) ?_)
  simp(disch:=omega) only[go_sem,seval,reduceCtorEq,htl]
  (repeat (refine And.intro (by omega) ?_))
  (refine Next.drop (mkB 21 1047584) (by omega) (h1:= ?_) (h2:= ?_)<;>first | (simp only[go_sem,seval,reduceCtorEq,nz,na,n1,CA hlt];first | done | rfl) | rfl | skip)
 ·have d1:¬ (k:Int)<N.ts.length:=by omega
  obtain rfl:k=N.ts.length:=by omega
  simp(disch:=omega) only[go_sem,seval,reduceCtorEq,d1,List.take_length]
  (refine zE ?_ ?_<;>try simp only[go_sem,seval,reduceCtorEq])
theorem lu {N:Net} (h:NSz 1048576 N):Does Tryz.prog 54 [netA N] [] (.d (lists (labL N.ts))) []:=by
 have h1:=Does.fz (xm h) ff (by rw[qi];simp [labL])
 have e:(labL N.ts).length=N.ts.length:=by simp [labL]
 rw[lists,e]
 exact h1
theorem i4 {L:List (List Int)} {x:Int} (h:LOk L) (hl:L.length≤1048576):Does Tryz.prog 55 [.d (lists L),.d (.int x)] [] (.d (ints (i5 L x))) []:=by
 (refine spec_of (by kernel_rfl) Tryz.func55 oE (fnOk (nb rfl) ?_);unfold g8)
 (simp only[Nat.reduceSub,Zl,zn,Nat.reduceAdd,zF];try simp only[af]);(simp only[go_sem,seval,reduceCtorEq,List.replicate])
 refine dr (Wk.nilD 5 _ _ rfl) ?_
 simp only[go_sem,seval,reduceCtorEq]
 refine aN (L.length) (mkB 22 2095232) (fun k=>[(5,.d (ints (d9 L x k))),(10,.d (.int k))]) (fun k=>[]) (h1:=by first | (simp only[go_sem,seval,reduceCtorEq,nz,na,n1,d9,zn,AC];first | done | rfl) | rfl) (h2:=by first | (simp only[go_sem,seval,reduceCtorEq,nz,na,n1,d9,zn,AC];first | done | rfl) | rfl) (hr:=fun k hk=> ?_)
 unfold fP
 by_cases hlt:k<L.length
 ·have d1:(k:Int)<L.length:=by omega
  have g:L[k]? =some L[k]:=zg hlt
  have hk1:=h L[k] (List.getElem_mem hlt)
  have hkl:=gn hk1.1 hk1.2
  have hbk:=kN (x:=x) h k hk
  have hbl:=gn hbk.1 hbk.2
  simp(disch:=omega) only[go_sem,seval,reduceCtorEq,d1,g]
  (refine zC (cm (xs:=L[k]) (x:=x) (by omega)) ?_)
  cases hh:has L[k] x
  ·simp(disch:=omega) only[go_sem,seval,reduceCtorEq,hh]
   (refine Next.drop (mkB 22 2095232) (by omega) (h1:= ?_) (h2:= ?_)<;>first | (simp only[go_sem,seval,reduceCtorEq,nz,na,n1,rV hlt hh];first | done | rfl) | rfl | skip)
  ·simp(disch:=omega) only[go_sem,seval,reduceCtorEq,hh]
   (refine zC (qx (a:=d9 L x k) (b:=L[k]) (by omega) (by omega)) ?_)
   simp(disch:=omega) only[go_sem,seval,reduceCtorEq]
   (refine Next.drop (mkB 22 2095232) (by omega) (h1:= ?_) (h2:= ?_)<;>first | (simp only[go_sem,seval,reduceCtorEq,nz,na,n1,pP hlt hh];first | done | rfl) | rfl | skip)
 ·have d1:¬ (k:Int)<L.length:=by omega
  obtain rfl:k=L.length:=by omega
  simp(disch:=omega) only[go_sem,seval,reduceCtorEq,d1]
  (refine zE ?_ ?_<;>try simp only[go_sem,seval,reduceCtorEq])
  all_goals rfl
theorem m6 {L:List (List Int)} {x:Int} (h:LOk L) (hl:L.length≤1048575):Does Tryz.prog 56 [.d (lists L),.d (.int x)] [] (.d (lists (kL L x))) []:=by
 refine Does.fz (g:=true) (c:=lsA (kL L x)) ?_ ff (by rw[qi,Nat.mul_one])
 (refine spec_of (by kernel_rfl) Tryz.func56 mV (fnOk (nb rfl) ?_);unfold fS)
 (simp only[Nat.reduceSub,Zl,zn,Nat.reduceAdd,zF];try simp only[af]);(simp only[go_sem,seval,reduceCtorEq,List.replicate])
 (refine dr (Wk.nilE 5 1 _ _ rfl) ?_;simp only[go_sem,seval,reduceCtorEq])
 refine aN (L.length) (mkB 31 8386688) (fun k=>[(5,.own 0 0 (dF L x k).length),(10,.d (.int k))]) (fun k=>[(0,lsA (dF L x k))]) (h1:=by first | (simp only[go_sem,seval,reduceCtorEq,nz,na,n1,dF,List.take_zero,List.filter_nil,tg];first | done | rfl) | rfl) (h2:=by first | (simp only[go_sem,seval,reduceCtorEq,nz,na,n1,dF,List.take_zero,List.filter_nil,tg];first | done | rfl) | rfl) (hr:=fun k hk=> ?_)
 unfold eS
 have hrl:=tS (L:=L) (x:=x) (k:=k)
 by_cases hlt:k<L.length
 ·have d1:(k:Int)<L.length:=by omega
  have g:L[k]? =some L[k]:=zg hlt
  have hk1:=h L[k] (List.getElem_mem hlt)
  have hkl:=gn hk1.1 hk1.2
  simp(disch:=omega) only[go_sem,seval,reduceCtorEq,d1,g]
  (refine zC (cm (xs:=L[k]) (x:=x) (by omega)) ?_)
  cases hh:has L[k] x
  ·simp(disch:=omega) only[go_sem,seval,reduceCtorEq,hh]
   (repeat (refine And.intro (by omega) ?_))
   (refine Next.drop (mkB 31 8386688) (by omega) (h1:= ?_) (h2:= ?_)<;>first | (simp only[go_sem,seval,reduceCtorEq,nz,na,n1,A4 hlt hh,List.length_append];first | done | rfl) | rfl | skip)
  ·simp(disch:=omega) only[go_sem,seval,reduceCtorEq,hh]
   (refine Next.drop (mkB 31 8386688) (by omega) (h1:= ?_) (h2:= ?_)<;>first | (simp only[go_sem,seval,reduceCtorEq,nz,na,n1,C4 hlt hh];first | done | rfl) | rfl | skip)
 ·have d1:¬ (k:Int)<L.length:=by omega
  obtain rfl:k=L.length:=by omega
  have hbl:=vm h x
  simp(disch:=omega) only[go_sem,seval,reduceCtorEq,d1]
  (refine zC (i4 (L:=L) (x:=x) h (by omega)) ?_)
  simp(disch:=omega) only[go_sem,seval,reduceCtorEq]
  (refine zC (x4 (xs:=i5 L x) (x:=x) (by omega)) ?_)
  simp(disch:=omega) only[go_sem,seval,reduceCtorEq]
  (repeat (refine And.intro (by omega) ?_))
  (refine zE ?_ ?_<;>try simp only[go_sem,seval,reduceCtorEq])
  all_goals simp only[kL,List.length_append,Zl,zn]
set_option maxRecDepth 100000
noncomputable def iy (N:Net) (xs:List Int):List Int:=bif eM N xs then bP (labL N.ts) xs xs.length else []
theorem uT {N:Net} {xs:List Int} (h:eM N xs=true):xs.length≤100:=by
 simp only[eM,Bool.and_eq_true]at h
 have h1:=(zd h.2).1
 have h2:(aX N).length≤100:=by
  have h3:(aj N).length≤100:=by
   unfold aj
   split
   ·exact cW _ _
   ·simp
  exact Nat.le_trans (sW _ _) h3
 omega
theorem yO (ts:List Ten):(labL ts).length=ts.length:=by simp [labL]
theorem n3 {N:Net} {xs:List Int} (h:NSz 1048576 N) (hL:Sz 1048576 xs):Does Tryz.prog 17 [netA N,.d (ints xs)] [] (.own 0 0 (iy N xs).length) [some ⟨1,true,iv (iy N xs)⟩]:=by
 (refine spec_of (by kernel_rfl) Tryz.func17 km (fnOk (nb rfl) ?_);unfold dO)
 (simp only[Nat.reduceSub,Zl,zn,Nat.reduceAdd,zF];try simp only[af]);(simp only[go_sem,seval,reduceCtorEq,List.replicate])
 (refine zC (kF h hL) ?_)
 cases h1:eM N xs
 ·have e:iy N xs=[]:=by simp [iy,h1]
  simp only[go_sem,seval,reduceCtorEq,h1,e]
  refine FnEnd.wk (Wk.nilE 4 1 _ _ rfl) ?_
  (refine zE ?_ ?_<;>try simp only[go_sem,seval,reduceCtorEq])
 have e:iy N xs=bP (labL N.ts) xs xs.length:=by simp [iy,h1]
 have hxl:=uT h1
 have hok:bn N=true:=by simp only[eM,Bool.and_eq_true]at h1;exact h1.1
 have hl12:=(ay.1 hok).2.1
 have hlo:=xp (bS hok)
 have hll:=yO N.ts
 simp only[go_sem,seval,reduceCtorEq,h1]
 (refine zC (lu h) ?_)
 simp only[go_sem,seval,reduceCtorEq]
 (refine dr (Wk.nilE 5 1 _ _ rfl) ?_;simp only[go_sem,seval,reduceCtorEq])
 have hz0:bE (labL N.ts) xs 0=labL N.ts:=rfl
 refine aN (xs.length) (mkB 33 4294705408) (fun k=>[(5,.own 1 0 k),(6,.d (lists (bE (labL N.ts) xs k))),(17,.d (.int k))]) (fun k=>[(1,iv (bP (labL N.ts) xs k))]) (h1:=by first | (simp only[go_sem,seval,reduceCtorEq,nz,na,n1,hz0,bP,bK];first | done | rfl) | rfl) (h2:=by first | (simp only[go_sem,seval,reduceCtorEq,nz,na,n1,hz0,bP,bK];first | done | rfl) | rfl) (hr:=fun k hk=> ?_)
 unfold dC
 have hwl:=lc (labL N.ts) xs k
 by_cases hlt:k<xs.length
 ·have d1:(k:Int)<xs.length:=by omega
  have g:xs[k]? =some xs[k]:=zg hlt
  have gd:xs.getD k 0=xs[k]:=ab hlt
  have hel:=pE (L:=labL N.ts) (xs:=xs) k
  have heo:=ox (xs:=xs) hlo k
  have hw1:bP (labL N.ts) xs (k+1)=bP (labL N.ts) xs k++[((i5 (bE (labL N.ts) xs k) xs[k]).length:Int)]:=by rw[bP,gd]
  have he1:bE (labL N.ts) xs (k+1)=kL (bE (labL N.ts) xs k) xs[k]:=by rw[bE,gd]
  simp(disch:=omega) only[go_sem,seval,reduceCtorEq,d1,g]
  (refine zC (i4 (L:=bE (labL N.ts) xs k) (x:=xs[k]) heo (by omega)) ?_)
  simp(disch:=omega) only[go_sem,seval,reduceCtorEq,hwl]
  (repeat (refine And.intro (by omega) ?_))
  (refine zC (m6 (L:=bE (labL N.ts) xs k) (x:=xs[k]) heo (by omega)) ?_)
  simp(disch:=omega) only[go_sem,seval,reduceCtorEq]
  (refine Next.drop (mkB 33 4294705408) (by omega) (h1:= ?_) (h2:= ?_)<;>first | (simp only[go_sem,seval,reduceCtorEq,nz,na,n1,hw1,he1];first | done | rfl) | rfl | skip)
 ·have d1:¬ (k:Int)<xs.length:=by omega
  obtain rfl:k=xs.length:=by omega
  simp(disch:=omega) only[go_sem,seval,reduceCtorEq,d1,e,hwl]
  (refine zE ?_ ?_<;>try simp only[go_sem,seval,reduceCtorEq])
end Go.Proofs.YtjfmckhbmdjnpaaGreat
