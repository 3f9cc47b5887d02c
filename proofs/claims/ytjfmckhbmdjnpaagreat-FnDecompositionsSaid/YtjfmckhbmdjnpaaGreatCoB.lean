/-
 Contracts: joined labels and axes, the size of a join. No condition.
-/
import Derived.Test.YtjfmckhbmdjnpaaGreatRngB
import Derived.Test.YtjfmckhbmdjnpaaGreatLiftG
set_option linter.unusedSimpArgs false
set_option linter.unusedVariables false
namespace Go.Proofs.YtjfmckhbmdjnpaaGreat
open Go.RowKit Go.Lift Plain
set_option maxRecDepth 100000
theorem om {xs:List Int} (h:xs.length≤1099511627776):Does Tryz.prog 103 [.d (ints xs)] [] (.own 0 0 xs.length) [some ⟨1,true,iv xs⟩]:=by
 (refine spec_of (by kernel_rfl) Tryz.func103 um (fnOk (nb rfl) ?_);unfold nM)
 (simp only[Nat.reduceSub,Zl,zn,Nat.reduceAdd,zF];try simp only[af]);(simp only[go_sem,seval,reduceCtorEq,List.replicate])
 refine⟨by omega, ?_⟩
 (refine zE ?_ ?_<;>try simp only[go_sem,seval,reduceCtorEq])
theorem lC {a b:List Int} (ha:a.length≤1048576) (hb:b.length≤1048576):Does Tryz.prog 86 [.d (ints a),.d (ints b)] [] (.own 0 0 (au a b).length) [some ⟨1,true,iv (au a b)⟩]:=by
 (refine spec_of (by kernel_rfl) Tryz.func86 qt (fnOk (nb rfl) ?_);unfold kb)
 (simp only[Nat.reduceSub,Zl,zn,Nat.reduceAdd,zF];try simp only[af]);(simp only[go_sem,seval,reduceCtorEq,List.replicate])
 (refine zC (dU (xs:=a) (by omega)) ?_)
 simp only[go_sem,seval,reduceCtorEq]
 refine gE (b.length) (fun k=>(ch (.d (ints a)) (.any) (.any) (.any) (.any) (.own 0 0 (a++(b.take k).filter fun x=> !has a x).length) (.any) (.any) (.any) (.any) (.d (ints b)) (.d (.int b.length)) (.d (.int k)) (.any) (.any) (.any) [.any,.any,.any,.any,.any,.any,.any,.any,.any,.any])) (fun k=>[some ⟨1,true,iv (a++(b.take k).filter fun x=> !has a x)⟩]) (Wk.kept' [0,5,10,11,12] 1 (nb rfl) (by first | rfl | simp only[go_sem,seval,reduceCtorEq,bu,aJ,aI,bg,bv,cut,List.contains_cons,List.contains_nil,Nat.reduceBEq,Int.natCast_zero,Int.natCast_add,Int.natCast_one,List.take_zero,List.filter_nil,List.append_nil]) (by first | rfl | simp only[go_sem,seval,reduceCtorEq,bu,aJ,aI,bg,bv,cut,List.contains_cons,List.contains_nil,Nat.reduceBEq,Int.natCast_zero,Int.natCast_add,Int.natCast_one,List.take_zero,List.filter_nil,List.append_nil])) fun k hk=> ?_
 unfold ik
 by_cases hlt:k<b.length
 ·have h1:(k:Int)<b.length:=by omega
  have hx:b[k]? =some b[k]:=zg hlt
  have hf:=gZ b k fun x=> !has a x
  simp(disch:=omega) only[go_sem,seval,reduceCtorEq,h1,hx]
  (refine zC (cm (xs:=a) (x:=b[k]) (by omega)) ?_)
  cases he:has a b[k]
  ·simp(disch:=omega) only[go_sem,seval,reduceCtorEq,he]
   refine⟨by rw[List.length_append];omega, ?_⟩
   (refine Next.mk hlt (Wk.kept' [0,5,10,11,12] 1 (nb rfl) ?_ ?_)<;>first | rfl | (simp only[go_sem,seval,reduceCtorEq,bu,aJ,aI,bg,bv,cut,List.contains_cons,List.contains_nil,Nat.reduceBEq,Int.natCast_zero,Int.natCast_add,Int.natCast_one,gY (p:=fun x=> !has a x) hlt (by rw[he];rfl),List.length_append,List.append_assoc,Nat.add_assoc];done) | skip)
  ·simp(disch:=omega) only[go_sem,seval,reduceCtorEq,he]
   (refine Next.mk hlt (Wk.kept' [0,5,10,11,12] 1 (nb rfl) ?_ ?_)<;>first | rfl | (simp only[go_sem,seval,reduceCtorEq,bu,aJ,aI,bg,bv,cut,List.contains_cons,List.contains_nil,Nat.reduceBEq,Int.natCast_zero,Int.natCast_add,Int.natCast_one,kJ (p:=fun x=> !has a x) hlt (by rw[he];rfl)];done) | skip)
 ·have h1:¬ (k:Int)<b.length:=by omega
  simp(disch:=omega) only[go_sem,seval,reduceCtorEq,h1]
  (refine zE ?_ ?_<;>try simp only[go_sem,seval,reduceCtorEq])
  all_goals rw[zt (by omega)];rfl
theorem rC (a b:Ten):(aE a b).length=(au a.labels b.labels).length:=by simp [aE]
theorem wx {a b:Ten} {k:Nat} (h:k<(au a.labels b.labels).length):(aE a b)[k]? =some (if has a.labels (au a.labels b.labels)[k]=true then ar a (au a.labels b.labels)[k] else ar b (au a.labels b.labels)[k]):=by
 simp [aE,h]
theorem Ar {a b:Ten} (ha:axOk a.labels a.dims) (hb:axOk b.labels b.dims) (h:fV a b=true):
  Does Tryz.prog 74 [tenA a,tenA b] [] (.tup [.own 0 0 (au a.labels b.labels).length,.own 1 0 (au a.labels b.labels).length,.d (.bool true)]) [some ⟨1,true,iv (au a.labels b.labels)⟩,some ⟨1,true,iv (aE a b)⟩]:=by
 have la:=ha.1
 have lb:=hb.1
 have lj:=oq a.labels b.labels
 have ld:=rC a b
 have lda:=ha.len
 have ldb:=hb.len
 (refine spec_of (by kernel_rfl) Tryz.func74 lZ (fnOk (nb rfl) ?_);unfold fZ)
 (simp only[Nat.reduceSub,Zl,zn,Nat.reduceAdd,zF];try simp only[af]);(simp only[go_sem,seval,reduceCtorEq,List.replicate])
 (refine zC (lC (a:=a.labels) (b:=b.labels) (by omega) (by omega)) ?_)
 simp(disch:=omega) only[go_sem,seval,reduceCtorEq]
 refine⟨by omega, ?_⟩
 refine gE ((au a.labels b.labels).length) (fun k=>(ch (.any) (.any) (.ptr 0 0) (.ptr 1 0) (.any) (.any) (.any) (.own 2 0 (au a.labels b.labels).length) (.own 3 0 (au a.labels b.labels).length) (.any) (.any) (.any) (.any) (.any) (.any) (.any) (ch (.any) (.any) (.any) (.any) (.any) (.own 2 0 (au a.labels b.labels).length) (.d (.int (au a.labels b.labels).length)) (.d (.int k)) (.any) (.any) (.any) (.any) (.any) (.any) (.any) (.any) (ch (.any) (.any) (.any) (.any) (.any) (.any) (.any) (.any) (.any) (.any) (.any) (.any) (.any) (.any) (.any) (.any) (ch (.any) (.any) (.any) (.any) (.any) (.any) (.any) (.any) (.any) (.any) (.any) (.any) (.any) (.any) (.any) (.any) [.any,.any,.any,.any,.any,.any,.any,.any,.any,.any]))))) (fun k=>[some ⟨0,false,[.d (ints a.labels),.d (ints a.dims),.d (ints a.data)]⟩,some ⟨0,false,[.d (ints b.labels),.d (ints b.dims),.d (ints b.data)]⟩,some ⟨1,true,iv (au a.labels b.labels)⟩,some ⟨1,true,iv (mix (aE a b) (List.replicate (au a.labels b.labels).length 0) k)⟩]) (Wk.kept' [2,3,7,8,21,22,23] 4 (nb rfl) (by first | rfl | simp only[go_sem,seval,reduceCtorEq,bu,aJ,aI,bg,bv,cut,List.contains_cons,List.contains_nil,Nat.reduceBEq,Int.natCast_zero,Int.natCast_add,Int.natCast_one,cl]) (by first | rfl | simp only[go_sem,seval,reduceCtorEq,bu,aJ,aI,bg,bv,cut,List.contains_cons,List.contains_nil,Nat.reduceBEq,Int.natCast_zero,Int.natCast_add,Int.natCast_one,cl])) fun k hk=> ?_
 unfold fi
 by_cases hlt:k<(au a.labels b.labels).length
 ·have h1:(k:Int)<(au a.labels b.labels).length:=by omega
  have hx:(au a.labels b.labels)[k]? =some (au a.labels b.labels)[k]:=zg hlt
  have hm:=ba.1 (List.getElem_mem hlt)
  have hg:=wx (a:=a) (b:=b) hlt
  generalize hl:(au a.labels b.labels)[k]=l at*
  simp(disch:=omega) only[go_sem,seval,reduceCtorEq,h1,hx]
  (refine zD (nq (t:=a) (x:=l) (by omega)) ?_)
  simp only[go_sem,seval,reduceCtorEq]
  (refine zC (nq (t:=b) (x:=l) (by omega)) ?_)
  have hlen:(mix (aE a b) (List.replicate (au a.labels b.labels).length 0) k).length=(au a.labels b.labels).length:=by rw[iY (by simp [ld]),ld]
  have hmn:=fG (l:=aE a b) (r:=List.replicate (au a.labels b.labels).length 0) (k:=k) (by simp [ld]) hg
  by_cases hma:l∈a.labels
  ·obtain⟨i,hi1,hi2,hi3,hi4⟩:=dB lda hma
   have c1:(i:Int)≥0:=by omega
   have c2:(i:Int)<a.dims.length:=by omega
   rw[if_pos (az.2 hma)]at hg hmn
   by_cases hmb:l∈b.labels
   ·obtain⟨j,hj1,hj2,hj3,hj4⟩:=dB ldb hmb
    have c3:(j:Int)≥0:=by omega
    have c4:(j:Int)<b.dims.length:=by omega
    have e:=uG h hma hmb
    have he:(ar a l !=ar b l)=false:=by simp [e]
    simp(disch:=omega) only[go_sem,seval,reduceCtorEq,hi3,hj3,c1,c2,c3,c4,hi4,hj4,he,h1]
    refine⟨by rw[hlen];omega, ?_⟩
    (refine Next.mk hlt (Wk.kept' [2,3,7,8,21,22,23] 4 (nb rfl) ?_ ?_)<;>first | rfl | (simp only[go_sem,seval,reduceCtorEq,bu,aJ,aI,bg,bv,cut,List.contains_cons,List.contains_nil,Nat.reduceBEq,Int.natCast_zero,Int.natCast_add,Int.natCast_one,hmn];done) | skip)
   ·have hj3:=gJ hmb
    simp(disch:=omega) only[go_sem,seval,reduceCtorEq,hi3,hj3,c1,c2,hi4,h1]
    refine⟨by rw[hlen];omega, ?_⟩
    (refine Next.mk hlt (Wk.kept' [2,3,7,8,21,22,23] 4 (nb rfl) ?_ ?_)<;>first | rfl | (simp only[go_sem,seval,reduceCtorEq,bu,aJ,aI,bg,bv,cut,List.contains_cons,List.contains_nil,Nat.reduceBEq,Int.natCast_zero,Int.natCast_add,Int.natCast_one,hmn];done) | skip)
  ·have hi3:=gJ hma
   have hmb:=hm.resolve_left hma
   obtain⟨j,hj1,hj2,hj3,hj4⟩:=dB ldb hmb
   have c3:(j:Int)≥0:=by omega
   have c4:(j:Int)<b.dims.length:=by omega
   rw[if_neg (fun e=>hma (az.1 e))]at hg hmn
   simp(disch:=omega) only[go_sem,seval,reduceCtorEq,hi3,hj3,c3,c4,hj4,h1]
   refine⟨by rw[hlen];omega, ?_⟩
   (refine Next.mk hlt (Wk.kept' [2,3,7,8,21,22,23] 4 (nb rfl) ?_ ?_)<;>first | rfl | (simp only[go_sem,seval,reduceCtorEq,bu,aJ,aI,bg,bv,cut,List.contains_cons,List.contains_nil,Nat.reduceBEq,Int.natCast_zero,Int.natCast_add,Int.natCast_one,hmn];done) | skip)
 ·have h1:¬ (k:Int)<(au a.labels b.labels).length:=by omega
  simp(disch:=omega) only[go_sem,seval,reduceCtorEq,h1]
  (refine zE ?_ ?_<;>try simp only[go_sem,seval,reduceCtorEq])
  rw[gQ (by simp;omega) (by omega)]
theorem z2 {a b:Ten} (ha:axOk a.labels a.dims) (hb:axOk b.labels b.dims) (h:fV a b=false):
  Does Tryz.prog 74 [tenA a,tenA b] [] (.tup [.nil,.nil,.d (.bool false)]) []:=by
 have la:=ha.1
 have lb:=hb.1
 have lj:=oq a.labels b.labels
 have ld:=rC a b
 have lda:=ha.len
 have ldb:=hb.len
 (refine spec_of (by kernel_rfl) Tryz.func74 lZ (fnOk (nb rfl) ?_);unfold fZ)
 (simp only[Nat.reduceSub,Zl,zn,Nat.reduceAdd,zF];try simp only[af]);(simp only[go_sem,seval,reduceCtorEq,List.replicate])
 (refine zC (lC (a:=a.labels) (b:=b.labels) (by omega) (by omega)) ?_)
 simp(disch:=omega) only[go_sem,seval,reduceCtorEq]
 refine⟨by omega, ?_⟩
 refine kr ((au a.labels b.labels).length) (fun k=>∀ l∈(au a.labels b.labels).take k,l∈a.labels→l∈b.labels→ar a l=ar b l) (fun k=>(ch (.any) (.any) (.ptr 0 0) (.ptr 1 0) (.any) (.any) (.any) (.own 2 0 (au a.labels b.labels).length) (.own 3 0 (au a.labels b.labels).length) (.any) (.any) (.any) (.any) (.any) (.any) (.any) (ch (.any) (.any) (.any) (.any) (.any) (.own 2 0 (au a.labels b.labels).length) (.d (.int (au a.labels b.labels).length)) (.d (.int k)) (.any) (.any) (.any) (.any) (.any) (.any) (.any) (.any) (ch (.any) (.any) (.any) (.any) (.any) (.any) (.any) (.any) (.any) (.any) (.any) (.any) (.any) (.any) (.any) (.any) (ch (.any) (.any) (.any) (.any) (.any) (.any) (.any) (.any) (.any) (.any) (.any) (.any) (.any) (.any) (.any) (.any) [.any,.any,.any,.any,.any,.any,.any,.any,.any,.any]))))) (fun k=>[some ⟨0,false,[.d (ints a.labels),.d (ints a.dims),.d (ints a.data)]⟩,some ⟨0,false,[.d (ints b.labels),.d (ints b.dims),.d (ints b.data)]⟩,some ⟨1,true,iv (au a.labels b.labels)⟩,some ⟨1,true,iv (mix (aE a b) (List.replicate (au a.labels b.labels).length 0) k)⟩]) (by simp) (Wk.kept' [2,3,7,8,21,22,23] 4 (nb rfl) (by first | rfl | simp only[go_sem,seval,reduceCtorEq,bu,aJ,aI,bg,bv,cut,List.contains_cons,List.contains_nil,Nat.reduceBEq,Int.natCast_zero,Int.natCast_add,Int.natCast_one,cl]) (by first | rfl | simp only[go_sem,seval,reduceCtorEq,bu,aJ,aI,bg,bv,cut,List.contains_cons,List.contains_nil,Nat.reduceBEq,Int.natCast_zero,Int.natCast_add,Int.natCast_one,cl])) fun k hk hi=> ?_
 unfold fi
 by_cases hlt:k<(au a.labels b.labels).length
 ·have h1:(k:Int)<(au a.labels b.labels).length:=by omega
  have hx:(au a.labels b.labels)[k]? =some (au a.labels b.labels)[k]:=zg hlt
  have hm:=ba.1 (List.getElem_mem hlt)
  have hg:=wx (a:=a) (b:=b) hlt
  have hi':∀ (P:Prop),(P→P)→((au a.labels b.labels)[k]∈a.labels→(au a.labels b.labels)[k]∈b.labels→ar a (au a.labels b.labels)[k]=ar b (au a.labels b.labels)[k])→∀ l∈(au a.labels b.labels).take (k+1),l∈a.labels→l∈b.labels→ar a l=ar b l:=by
   intro _ _ hh l hl
   rw[bb hlt,List.mem_append]at hl
   rcases hl with hl | hl
   ·exact hi l hl
   ·simp only[List.mem_singleton]at hl
    rw[hl];exact hh
  replace hi':=hi' True id
  generalize hl:(au a.labels b.labels)[k]=l at*
  simp(disch:=omega) only[go_sem,seval,reduceCtorEq,h1,hx]
  (refine zD (nq (t:=a) (x:=l) (by omega)) ?_)
  simp only[go_sem,seval,reduceCtorEq]
  (refine zC (nq (t:=b) (x:=l) (by omega)) ?_)
  have hlen:(mix (aE a b) (List.replicate (au a.labels b.labels).length 0) k).length=(au a.labels b.labels).length:=by rw[iY (by simp [ld]),ld]
  have hmn:=fG (l:=aE a b) (r:=List.replicate (au a.labels b.labels).length 0) (k:=k) (by simp [ld]) hg
  by_cases hma:l∈a.labels
  ·obtain⟨i,hi1,hi2,hi3,hi4⟩:=dB lda hma
   have c1:(i:Int)≥0:=by omega
   have c2:(i:Int)<a.dims.length:=by omega
   rw[if_pos (az.2 hma)]at hg hmn
   by_cases hmb:l∈b.labels
   ·obtain⟨j,hj1,hj2,hj3,hj4⟩:=dB ldb hmb
    have c3:(j:Int)≥0:=by omega
    have c4:(j:Int)<b.dims.length:=by omega
    by_cases e:ar a l=ar b l
    ·have he:(ar a l !=ar b l)=false:=by simp [e]
     simp(disch:=omega) only[go_sem,seval,reduceCtorEq,hi3,hj3,c1,c2,c3,c4,hi4,hj4,he,h1]
     refine⟨by rw[hlen];omega, ?_⟩
     (refine NextI.mk hlt (hi' (fun _ _=>e)) (Wk.kept' [2,3,7,8,21,22,23] 4 (nb rfl) ?_ ?_)<;>first | rfl | (simp only[go_sem,seval,reduceCtorEq,bu,aJ,aI,bg,bv,cut,List.contains_cons,List.contains_nil,Nat.reduceBEq,Int.natCast_zero,Int.natCast_add,Int.natCast_one,hmn];done) | skip)
    ·have he:(ar a l !=ar b l)=true:=by simp [e]
     simp(disch:=omega) only[go_sem,seval,reduceCtorEq,hi3,hj3,c1,c2,c3,c4,hi4,hj4,he,h1]
     (refine zE ?_ ?_<;>try simp only[go_sem,seval,reduceCtorEq])
   ·have hj3:=gJ hmb
    simp(disch:=omega) only[go_sem,seval,reduceCtorEq,hi3,hj3,c1,c2,hi4,h1]
    refine⟨by rw[hlen];omega, ?_⟩
    (refine NextI.mk hlt (hi' (fun _ h=>absurd h hmb)) (Wk.kept' [2,3,7,8,21,22,23] 4 (nb rfl) ?_ ?_)<;>first | rfl | (simp only[go_sem,seval,reduceCtorEq,bu,aJ,aI,bg,bv,cut,List.contains_cons,List.contains_nil,Nat.reduceBEq,Int.natCast_zero,Int.natCast_add,Int.natCast_one,hmn];done) | skip)
  ·have hi3:=gJ hma
   have hmb:=hm.resolve_left hma
   obtain⟨j,hj1,hj2,hj3,hj4⟩:=dB ldb hmb
   have c3:(j:Int)≥0:=by omega
   have c4:(j:Int)<b.dims.length:=by omega
   rw[if_neg (fun e=>hma (az.1 e))]at hg hmn
   simp(disch:=omega) only[go_sem,seval,reduceCtorEq,hi3,hj3,c3,c4,hj4,h1]
   refine⟨by rw[hlen];omega, ?_⟩
   (refine NextI.mk hlt (hi' (fun h=>absurd h hma)) (Wk.kept' [2,3,7,8,21,22,23] 4 (nb rfl) ?_ ?_)<;>first | rfl | (simp only[go_sem,seval,reduceCtorEq,bu,aJ,aI,bg,bv,cut,List.contains_cons,List.contains_nil,Nat.reduceBEq,Int.natCast_zero,Int.natCast_add,Int.natCast_one,hmn];done) | skip)
 ·rw[zt (by omega)]at hi
  rw[Aq fun l hl hl'=>hi l (ba.2 (.inl hl)) hl hl']at h
  cases h
set_option maxRecDepth 100000
theorem bK:iv []=[]:=rfl
attribute [go_sem] bK
set_option maxRecDepth 100000
def putE (xs:List Int) (off:Nat) (ys:List Int):List Int:=xs.take off++ys++xs.drop (off+ys.length)
theorem bQ {xs ys:List Int} {off:Nat} (h:off+ys.length≤xs.length):(putE xs off ys).length=xs.length:=by simp [putE];omega
theorem kz {xs ys:List Int} {off i:Nat} (h:off+ys.length≤xs.length):(putE xs off ys)[i]? =if off≤i∧i<off+ys.length then ys[i-off]? else xs[i]? :=by
 unfold putE
 by_cases h1:i<off
 ·rw[if_neg (by omega),List.append_assoc,List.getElem?_append_left (by simp;omega),List.getElem?_take,if_pos h1]
 ·by_cases h2:i<off+ys.length
  ·rw[if_pos (by omega),List.getElem?_append_left (by simp;omega),List.getElem?_append_right (by simp;omega)]
   congr 1
   simp;omega
  ·rw[if_neg (by omega),List.getElem?_append_right (by simp;omega),List.getElem?_drop]
   congr 1
   simp;omega
theorem Ca {xs ys:List Int} {off k:Nat} (h:off+ys.length≤xs.length) (hk:k<ys.length):
  (putE xs off (ys.take k)).take (off+k)++[ys[k]]++(putE xs off (ys.take k)).drop (off+k+1)=putE xs off (ys.take (k+1)):=by
 have hl:(ys.take k).length=k:=by simp;omega
 rw[cD (by rw[bQ (by omega)];omega)]
 refine List.ext_getElem? fun i=> ?_
 rw[List.getElem?_set,kz (by omega),kz (by simp;omega),bQ (by omega)]
 have hl2:(ys.take (k+1)).length=k+1:=by simp;omega
 rw[hl,hl2]
 by_cases h1:off+k=i
 ·subst h1
  rw[if_pos rfl,if_pos (by omega),if_pos (by omega),List.getElem?_take,if_pos (by omega),show off+k-off=k by omega,zg hk]
 ·rw[if_neg h1]
  by_cases h2:off≤i∧i<off+k
  ·rw[if_pos h2,if_pos (by omega),List.getElem?_take,List.getElem?_take,if_pos (by omega),if_pos (by omega)]
  ·rw[if_neg h2,if_neg (by omega)]
theorem w3 (xs:List Int) (off:Nat):putE xs off []=xs:=by simp [putE]
theorem ED {x wd:Nat} {kk pp nn:Int} {t:Ten} {ys:List Int} (hw:ah ⟨kk,pp,nn⟩=(wd:Int)) (hy:ys.length=wd) (h1:1≤wd∧wd≤6) (hx:x*wd+wd≤t.data.length) (hx2:x≤1099511627776) (h:t.data.length≤1099511627776):
  Does Tryz.prog 96 [bm kk pp nn,ownT 0 t,.d (.int x),.d (ints ys)] (stoF t) (.tup []) (stoF ⟨t.labels,t.dims,putE t.data (x*wd) ys⟩):=by
 (refine spec_of (by kernel_rfl) Tryz.func96 vw (fnOk (nb rfl) ?_);unfold oU)
 (simp only[Nat.reduceSub,Zl,zn,Nat.reduceAdd,zF];try simp only[af]);(simp only[go_sem,seval,reduceCtorEq,List.replicate])
 (refine zC (f8 kk pp nn) ?_)
 simp only[go_sem,seval,reduceCtorEq,hw]
 refine gE (ys.length) (fun k=>(ch (.any) (.any) (.d (.int x)) (.d (ints ys)) (.any) (.ptr 4 0) (.any) (.any) (.d (.int wd)) (.any) (.any) (.any) (.any) (.d (.int ys.length)) (.d (.int k)) (.any) [.any,.any,.any,.any,.any,.any,.any,.any,.any,.any,.any,.any,.any,.any])) (fun k=>[some ⟨1,false,iv t.labels⟩,some ⟨1,false,iv t.dims⟩,some ⟨1,false,iv (putE t.data (x*wd) (ys.take k))⟩,some ⟨0,false,[.d (.int kk),.d (.int pp),.d (.int nn)]⟩,some ⟨0,false,[.own 0 0 t.labels.length,.own 1 0 t.dims.length,.own 2 0 t.data.length]⟩]) (Wk.kept' [2,3,5,8,13,14] 5 (nb rfl) (by first | rfl | simp only[go_sem,seval,reduceCtorEq,bu,aJ,aI,bg,bv,cut,List.contains_cons,List.contains_nil,Nat.reduceBEq,Int.natCast_zero,Int.natCast_add,Int.natCast_one,List.take_zero,w3]) (by first | rfl | simp only[go_sem,seval,reduceCtorEq,bu,aJ,aI,bg,bv,cut,List.contains_cons,List.contains_nil,Nat.reduceBEq,Int.natCast_zero,Int.natCast_add,Int.natCast_one,List.take_zero,w3])) fun k hk=> ?_
 unfold nB
 by_cases hlt:k<ys.length
 ·have h1:(k:Int)<ys.length:=by omega
  have hx:ys[k]? =some ys[k]:=zg hlt
  have e1:(x:Int)*wd=(x*wd:Nat):=by push_cast;rfl
  have e2:((x*wd:Nat):Int)+k=(x*wd+k:Nat):=by push_cast;rfl
  have hlk:(ys.take k).length=k:=by simp;omega
  have hpl:(putE t.data (x*wd) (ys.take k)).length=t.data.length:=bQ (by omega)
  have hn:=Ca (xs:=t.data) (ys:=ys) (off:=x*wd) (k:=k) (by omega) hlt
  simp(disch:=omega) only[go_sem,seval,reduceCtorEq,h1,hx,e1,e2]
  refine⟨by omega,by rw[hpl];omega, ?_⟩
  (refine Next.mk hlt (Wk.kept' [2,3,5,8,13,14] 5 (nb rfl) ?_ ?_)<;>first | rfl | (simp only[go_sem,seval,reduceCtorEq,bu,aJ,aI,bg,bv,cut,List.contains_cons,List.contains_nil,Nat.reduceBEq,Int.natCast_zero,Int.natCast_add,Int.natCast_one,hn];done) | skip)
 ·have h1:¬ (k:Int)<ys.length:=by omega
  simp(disch:=omega) only[go_sem,seval,reduceCtorEq,h1]
  (refine zE ?_ ?_<;>try simp only[go_sem,seval,reduceCtorEq])
  all_goals rw[zt (by omega)]
set_option maxRecDepth 100000
def lV (ls L:List Int):Bool:=decide (L.length=ls.length∧∀ k (hk:k<L.length),L[k]∈ls∧L[k]∉L.take k)
theorem ye {ls L:List Int} (k:Nat) (hk:k<L.length) (h:¬ (L[k]∈ls∧L[k]∉L.take k)):lV ls L=false:=decide_eq_false fun e=>h (e.2 k hk)
theorem q6 {ls L:List Int} (h1:ls.length≤1099511627776) (h2:L.length≤1099511627776):Does Tryz.prog 104 [.d (ints ls),.d (ints L)] [] (.d (.bool (lV ls L))) []:=by
 (refine spec_of (by kernel_rfl) Tryz.func104 qp (fnOk (nb rfl) ?_);unfold k7)
 (simp only[Nat.reduceSub,Zl,zn,Nat.reduceAdd,zF];try simp only[af]);(simp only[go_sem,seval,reduceCtorEq,List.replicate])
 by_cases hl:L.length=ls.length
 rotate_left
 ·have c:((L.length:Int) !=ls.length)=true:=by simp;omega
  have e:lV ls L=false:=decide_eq_false fun x=>hl x.1
  simp(disch:=omega) only[go_sem,seval,reduceCtorEq,c,e]
  (refine zE ?_ ?_<;>try simp only[go_sem,seval,reduceCtorEq])
 have c:((L.length:Int) !=ls.length)=false:=by simp [hl]
 simp(disch:=omega) only[go_sem,seval,reduceCtorEq,c]
 refine bV (L.length) (mkB 31 2147450992) (fun k=>∀ j (hj:j<L.length),j<k→L[j]∈ls∧L[j]∉L.take j) (fun k=>[(14,.d (.int k))]) (fun k=>[]) (hi:=fun j _ hj=>absurd hj (Nat.not_lt_zero j)) (h1:=by first | (simp only[go_sem,seval,reduceCtorEq,nz,na,n1];first | done | rfl) | rfl) (h2:=by first | (simp only[go_sem,seval,reduceCtorEq,nz,na,n1];first | done | rfl) | rfl) (hr:=fun k hk hi=> ?_)
 unfold ig
 by_cases hlt:k<L.length
 ·have c1:(k:Int)<L.length:=by omega
  have g:L[k]? =some L[k]:=zg hlt
  have hlk:(L.take k).length=k:=by simp;omega
  have c2:(k:Int)≤L.length:=by omega
  simp(disch:=omega) only[go_sem,seval,reduceCtorEq,c1,c2,g]
  simp only[true_or,Int.sub_zero,Int.toNat_natCast,go_sem,seval,reduceCtorEq]
  (refine aV (cm (xs:=L.take k) (x:=L[k]) (by omega)) ?_ ?_ ?_;(focus (simp only[go_sem,seval,reduceCtorEq,hlk];done));(first | rfl | (focus (simp only[go_sem];done))))
  cases hh:has (L.take k) L[k]
  ·simp only[go_sem,seval,reduceCtorEq,hh]
   (refine zC (cm (xs:=ls) (x:=L[k]) (by omega)) ?_)
   cases hm:has ls L[k]
   ·have e:=ye (ls:=ls) k hlt (fun x=>by rw[az.2 x.1]at hm;cases hm)
    simp only[go_sem,seval,reduceCtorEq,hm,e]
    (refine zE ?_ ?_<;>try simp only[go_sem,seval,reduceCtorEq])
   ·simp(disch:=omega) only[go_sem,seval,reduceCtorEq,hm]
    have hI:∀ j (hj:j<L.length),j<k+1→L[j]∈ls∧L[j]∉L.take j:=fun j hj hjk=>by
     by_cases e:j=k
     ·subst e;exact⟨az.1 hm,aT.1 hh⟩
     ·exact hi j hj (by omega)
    (refine NextI.drop (mkB 31 2147450992) (by omega) (hI) (h1:= ?_) (h2:= ?_)<;>first | (simp only[go_sem,seval,reduceCtorEq,nz,na,n1];first | done | rfl) | rfl | skip)
  ·have e:=ye (ls:=ls) k hlt (fun x=>by rw[aT.2 x.2]at hh;cases hh)
   simp only[go_sem,seval,reduceCtorEq,hh,e]
   (refine zE ?_ ?_<;>try simp only[go_sem,seval,reduceCtorEq])
 ·have c1:¬ (k:Int)<L.length:=by omega
  have e:lV ls L=true:=decide_eq_true ⟨hl,fun j hj=>hi j hj (by omega)⟩
  simp(disch:=omega) only[go_sem,seval,reduceCtorEq,c1,e]
  (refine zE ?_ ?_<;>try simp only[go_sem,seval,reduceCtorEq])
theorem qe:∀ {L ls:List Int},L.Nodup→(∀ x∈L,x∈ls)→L.length≤ls.length
 | [],ls,_,_=>Nat.zero_le _
 | l :: L,ls,hn,hs=>by
  simp only[List.nodup_cons]at hn
  have hl:l∈ls:=hs l (by simp)
  have h1:=qe (L:=L) (ls:=ls.erase l) hn.2 (fun y hy=>(List.mem_erase_of_ne (fun (e:y=l)=>hn.1 (e ▸ hy))).2 (hs y (by simp [hy])))
  have h2:=List.length_erase_of_mem hl
  have h3:=List.length_pos_of_mem hl
  simp only[Zl]
  omega
def wol (ls L:List Int):List Int:=ls.filter fun x=> !has L x
theorem sW (ls L:List Int):(wol ls L).length≤ls.length:=List.length_filter_le _ _
theorem AS {ls L:List Int} {y:Int}:y∈wol ls L↔y∈ls∧y∉L:=by simp [wol,has]
theorem fu {r:Rg} {xs:List Int} (h:∀ x∈xs,0≤x∧x≤top r):fits r xs:=fun k hk=>h _ (f7 xs k hk)
theorem gV {r:Rg} {xs:List Int} (h:fits r xs):∀ x∈xs,0≤x∧x≤top r:=fun x hx=>by
 obtain⟨k,hk,rfl⟩:=List.getElem_of_mem hx
 have:=h k hk
 rwa [ab hk]at this
theorem Dx {r:Rg} {ls ds xs:List Int} (h1:ae r=true) (h2:(xs.length:Int)=aa ds*ah r) (h3:fits r xs):aD r ls ds xs=decide (aU ls ds≠ -1):=by
 rw[aD,h1,show m4 r xs=true from decide_eq_true h3,Bool.true_and,Bool.and_true]
 rcases cQ ls ds with h | ⟨_,_,h,_⟩
 ·simp [h]
 ·rw[h]
  by_cases e:aa ds= -1<;>simp [e,h2]
def lget (L:List (List Int)) (k:Nat):List Int:=L.getD k []
theorem Bm {L:List (List Int)} {k:Nat} (h:k<L.length):lget L k=L[k]:=by simp [lget,h]
def LOk (L:List (List Int)):Prop:=∀ l∈L,l.Nodup∧∀ x∈l,0≤x∧x≤99
theorem oM:∀ {l M:List Int},l.Nodup→(∀ x∈l,x∈M)→l.length≤M.length
 | [],_,_,_=>Nat.zero_le _
 | x :: l,M,h,hs=>by
  rw[List.nodup_cons]at h
  have hx:=hs x (List.mem_cons_self ..)
  have h1:=oM (l:=l) (M:=M.erase x) h.2 fun y hy=>(List.mem_erase_of_ne (fun e=>h.1 (by rwa [← e]))).2 (hs y (List.mem_cons_of_mem _ hy))
  have h2:=List.length_erase_of_mem hx
  have h3:=List.length_pos_of_mem hx
  simp only[Zl]
  omega
theorem gn {l:List Int} (h:l.Nodup) (hb:∀ x∈l,0≤x∧x≤99):l.length≤100:=by
 have h1:=oM (M:=(List.range 100).map fun (i:Nat)=>(i:Int)) h fun x hx=>by
  have:=hb x hx
  exact List.mem_map.2 ⟨x.toNat,by simp;omega,by omega⟩
 simpa using h1
theorem mY {a b:List Int} (ha:a.Nodup) (hb:b.Nodup):(au a b).Nodup:=by
 unfold au
 refine List.nodup_append.2 ⟨ha,hb.filter _,fun x hx y hy e=> ?_⟩
 subst e
 simp only[List.mem_filter,Bool.not_eq_true',aT]at hy
 exact hy.2 hx
def d9 (L:List (List Int)) (x:Int):Nat→List Int
 | 0=>[]
 | k+1=>if has (lget L k) x=true then au (d9 L x k) (lget L k) else d9 L x k
section
variable {L : List (List Int)} {x : Int} {k : Nat}
theorem pP (h:k<L.length) (hh:has L[k] x=true):d9 L x (k+1)=au (d9 L x k) L[k]:=by rw[d9,Bm h,if_pos hh]
theorem rV (h:k<L.length) (hh:has L[k] x=false):d9 L x (k+1)=d9 L x k:=by rw[d9,Bm h,if_neg (by rw[hh];simp)]
theorem kN (h:LOk L):∀ k,k≤L.length→(d9 L x k).Nodup∧∀ y∈d9 L x k,0≤y∧y≤99
 | 0,_=>by simp [d9]
 | k+1,hk=>by
  have ih:=kN h k (by omega)
  have hl:=h L[k] (List.getElem_mem (by omega))
  cases hh:has L[k] x
  ·rw[rV (by omega) hh];exact ih
  ·rw[pP (by omega) hh]
   refine⟨mY ih.1 hl.1,fun y hy=> ?_⟩
   rcases ba.1 hy with hy | hy
   ·exact ih.2 y hy
   ·exact hl.2 y hy
def dF (L:List (List Int)) (x:Int) (k:Nat):List (List Int):=(L.take k).filter fun l=> !has l x
theorem C4 (h:k<L.length) (hh:has L[k] x=true):dF L x (k+1)=dF L x k:=by
 rw[dF,List.take_succ_eq_append_getElem h,List.filter_append]
 simp [hh,dF]
theorem A4 (h:k<L.length) (hh:has L[k] x=false):dF L x (k+1)=dF L x k++[L[k]]:=by
 rw[dF,List.take_succ_eq_append_getElem h,List.filter_append]
 simp [hh,dF]
theorem tS:(dF L x k).length≤k:=by
 have h1:=List.length_filter_le (fun l=> !has l x) (L.take k)
 have h2:=List.length_take_le k L
 unfold dF
 omega
end
def i5 (L:List (List Int)) (x:Int):List Int:=d9 L x L.length
def kL (L:List (List Int)) (x:Int):List (List Int):=dF L x L.length++[(i5 L x).filter (· !=x)]
theorem vm {L:List (List Int)} (h:LOk L) (x:Int):(i5 L x).length≤100:=by
 obtain⟨a,b⟩:=kN (x:=x) h L.length (Nat.le_refl _)
 exact gn a b
theorem Fc {L:List (List Int)} (h:LOk L) (x:Int):LOk (kL L x):=by
 intro l hl
 unfold kL at hl
 rcases List.mem_append.1 hl with hl | hl
 ·exact h l (List.mem_of_mem_take (List.mem_filter.1 hl).1)
 ·simp only[List.mem_singleton]at hl
  subst hl
  obtain⟨a,b⟩:=kN (x:=x) h L.length (Nat.le_refl _)
  exact⟨a.filter _,fun y hy=>b y (List.mem_filter.1 hy).1⟩
theorem D2 (L:List (List Int)) (x:Int):(kL L x).length≤L.length+1:=by
 have:=tS (L:=L) (x:=x) (k:=L.length)
 simp only[kL,List.length_append,Zl,zn]
 omega
def bE (L:List (List Int)) (xs:List Int):Nat→List (List Int)
 | 0=>L
 | k+1=>kL (bE L xs k) (xs.getD k 0)
theorem ox {L:List (List Int)} {xs:List Int} (h:LOk L):∀ k,LOk (bE L xs k)
 | 0=>h
 | k+1=>Fc (ox h k) _
theorem pE {L:List (List Int)} {xs:List Int}:∀ k,(bE L xs k).length≤L.length+k
 | 0=>Nat.le_refl _
 | k+1=>by
  have:=pE (L:=L) (xs:=xs) k
  have:=D2 (bE L xs k) (xs.getD k 0)
  rw[bE]
  omega
def bP (L:List (List Int)) (xs:List Int):Nat→List Int
 | 0=>[]
 | k+1=>bP L xs k++[((i5 (bE L xs k) (xs.getD k 0)).length:Int)]
theorem lc (L:List (List Int)) (xs:List Int):∀ k,(bP L xs k).length=k
 | 0=>rfl
 | k+1=>by rw[bP,List.length_append,lc L xs k];rfl
end Go.Proofs.YtjfmckhbmdjnpaaGreat
