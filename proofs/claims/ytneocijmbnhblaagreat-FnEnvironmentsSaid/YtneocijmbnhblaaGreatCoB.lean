/-
 Contracts: joined labels and axes, the size of a join. No condition.
-/
import Derived.Test.YtneocijmbnhblaaGreatRngB
import Derived.Test.YtneocijmbnhblaaGreatLiftG
set_option linter.unusedSimpArgs false
set_option linter.unusedVariables false
namespace Go.Proofs.YtneocijmbnhblaaGreat
open Go.RowKit Go.Lift Plain
set_option maxRecDepth 100000
theorem iw {xs:List Int} (h:xs.length≤1099511627776):Does Tryz.prog 81 [.d (ints xs)] [] (.own 0 0 xs.length) [some ⟨1,true,iv xs⟩]:=by
 (refine spec_of (by kernel_rfl) Tryz.func81 qj (fnOk (nb rfl) ?_);unfold C_spec_l05Ints)
 (simp only[Nat.reduceSub,List.length_cons,List.length_nil,Nat.reduceAdd,am,al,aj,ai,ah,af,ae,ac];try simp only[au]);(simp only[go_sem,seval,reduceCtorEq,List.replicate])
 refine⟨by omega, ?_⟩
 (refine FnEnd.mk (nb rfl) rfl (of_decide_eq_true rfl) ?_ ?_<;>try simp only[go_sem,seval,reduceCtorEq])
theorem fU {a b:List Int} (ha:a.length≤1048576) (hb:b.length≤1048576):Does Tryz.prog 33 [.d (ints a),.d (ints b)] [] (.own 0 0 (aK a b).length) [some ⟨1,true,iv (aK a b)⟩]:=by
 (refine spec_of (by kernel_rfl) Tryz.func33 mu (fnOk (nb rfl) ?_);unfold C_impl_joinLabels)
 (simp only[Nat.reduceSub,List.length_cons,List.length_nil,Nat.reduceAdd,am,al,aj,ai,ah,af,ae,ac];try simp only[au]);(simp only[go_sem,seval,reduceCtorEq,List.replicate])
 (refine aa (cz (xs:=a) (by omega)) ?_ ?_ ?_;(focus (simp only[go_sem,seval,reduceCtorEq];done));(first | rfl | (focus (simp only[go_sem];done))))
 simp only[go_sem,seval,reduceCtorEq]
 refine ic (b.length) (fun k=>(ch (.d (ints a)) (.any) (.any) (.any) (.any) (.own 0 0 (a++(b.take k).filter fun x=> !has a x).length) (.any) (.any) (.any) (.any) (.d (ints b)) (.d (.int b.length)) (.d (.int k)) (.any) (.any) (.any) [.any,.any,.any,.any,.any,.any,.any,.any,.any,.any])) (fun k=>[some ⟨1,true,iv (a++(b.take k).filter fun x=> !has a x)⟩]) (Wk.kept' [0,5,10,11,12] 1 (nb rfl) (by first | rfl | simp only[go_sem,seval,reduceCtorEq,bX,aW,aV,bD,cg,cut,List.contains_cons,List.contains_nil,Nat.reduceBEq,Int.natCast_zero,Int.natCast_add,Int.natCast_one,List.take_zero,List.filter_nil,List.append_nil]) (by first | rfl | simp only[go_sem,seval,reduceCtorEq,bX,aW,aV,bD,cg,cut,List.contains_cons,List.contains_nil,Nat.reduceBEq,Int.natCast_zero,Int.natCast_add,Int.natCast_one,List.take_zero,List.filter_nil,List.append_nil])) fun k hk=> ?_
 unfold L0_impl_joinLabels
 by_cases hlt:k<b.length
 ·have h1:(k:Int)<b.length:=by omega
  have hx:b[k]? =some b[k]:=List.getElem?_eq_getElem hlt
  have hf:=ez b k fun x=> !has a x
  simp(disch:=omega) only[go_sem,seval,reduceCtorEq,h1,hx]
  (refine aa (fJ (xs:=a) (x:=b[k]) (by omega)) ?_ ?_ ?_;(focus (simp only[go_sem,seval,reduceCtorEq];done));(first | rfl | (focus (simp only[go_sem];done))))
  cases he:has a b[k]
  ·simp(disch:=omega) only[go_sem,seval,reduceCtorEq,he]
   refine⟨by rw[List.length_append];omega, ?_⟩
   (refine Next.mk hlt (Wk.kept' [0,5,10,11,12] 1 (nb rfl) ?_ ?_)<;>first | rfl | (simp only[go_sem,seval,reduceCtorEq,bX,aW,aV,bD,cg,cut,List.contains_cons,List.contains_nil,Nat.reduceBEq,Int.natCast_zero,Int.natCast_add,Int.natCast_one,gC (p:=fun x=> !has a x) hlt (by rw[he];rfl),List.length_append,List.append_assoc,Nat.add_assoc];done) | skip)
  ·simp(disch:=omega) only[go_sem,seval,reduceCtorEq,he]
   (refine Next.mk hlt (Wk.kept' [0,5,10,11,12] 1 (nb rfl) ?_ ?_)<;>first | rfl | (simp only[go_sem,seval,reduceCtorEq,bX,aW,aV,bD,cg,cut,List.contains_cons,List.contains_nil,Nat.reduceBEq,Int.natCast_zero,Int.natCast_add,Int.natCast_one,fo (p:=fun x=> !has a x) hlt (by rw[he];rfl)];done) | skip)
 ·have h1:¬ (k:Int)<b.length:=by omega
  simp(disch:=omega) only[go_sem,seval,reduceCtorEq,h1]
  (refine FnEnd.mk (nb rfl) rfl (of_decide_eq_true rfl) ?_ ?_<;>try simp only[go_sem,seval,reduceCtorEq])
  all_goals rw[List.take_of_length_le (by omega)];rfl
theorem nP (a b:Ten):(aM a b).length=(aK a.labels b.labels).length:=by simp [aM]
theorem sd {a b:Ten} {k:Nat} (h:k<(aK a.labels b.labels).length):(aM a b)[k]? =some (if has a.labels (aK a.labels b.labels)[k]=true then aE a (aK a.labels b.labels)[k] else aE b (aK a.labels b.labels)[k]):=by
 simp [aM,h]
theorem wj {a b:Ten} (ha:axOk a.labels a.dims) (hb:axOk b.labels b.dims) (h:fP a b=true):
  Does Tryz.prog 85 [tenA a,tenA b] [] (.tup [.own 0 0 (aK a.labels b.labels).length,.own 1 0 (aK a.labels b.labels).length,.d (.bool true)]) [some ⟨1,true,iv (aK a.labels b.labels)⟩,some ⟨1,true,iv (aM a b)⟩]:=by
 have la:=ha.1
 have lb:=hb.1
 have lj:=kG a.labels b.labels
 have ld:=nP a b
 have lda:=ha.len
 have ldb:=hb.len
 (refine spec_of (by kernel_rfl) Tryz.func85 jr (fnOk (nb rfl) ?_);unfold C_impl_joinAxes)
 (simp only[Nat.reduceSub,List.length_cons,List.length_nil,Nat.reduceAdd,am,al,aj,ai,ah,af,ae,ac];try simp only[au]);(simp only[go_sem,seval,reduceCtorEq,List.replicate])
 (refine aa (fU (a:=a.labels) (b:=b.labels) (by omega) (by omega)) ?_ ?_ ?_;(focus (simp only[go_sem,seval,reduceCtorEq];done));(first | rfl | (focus (simp only[go_sem];done))))
 simp(disch:=omega) only[go_sem,seval,reduceCtorEq]
 refine⟨by omega, ?_⟩
 refine ic ((aK a.labels b.labels).length) (fun k=>(ch (.any) (.any) (.ptr 0 0) (.ptr 1 0) (.any) (.any) (.any) (.own 2 0 (aK a.labels b.labels).length) (.own 3 0 (aK a.labels b.labels).length) (.any) (.any) (.any) (.any) (.any) (.any) (.any) (ch (.any) (.any) (.any) (.any) (.any) (.own 2 0 (aK a.labels b.labels).length) (.d (.int (aK a.labels b.labels).length)) (.d (.int k)) (.any) (.any) (.any) (.any) (.any) (.any) (.any) (.any) (ch (.any) (.any) (.any) (.any) (.any) (.any) (.any) (.any) (.any) (.any) (.any) (.any) (.any) (.any) (.any) (.any) (ch (.any) (.any) (.any) (.any) (.any) (.any) (.any) (.any) (.any) (.any) (.any) (.any) (.any) (.any) (.any) (.any) [.any,.any,.any,.any,.any,.any,.any,.any,.any,.any]))))) (fun k=>[some ⟨0,false,[.d (ints a.labels),.d (ints a.dims),.d (ints a.data)]⟩,some ⟨0,false,[.d (ints b.labels),.d (ints b.dims),.d (ints b.data)]⟩,some ⟨1,true,iv (aK a.labels b.labels)⟩,some ⟨1,true,iv (mix (aM a b) (List.replicate (aK a.labels b.labels).length 0) k)⟩]) (Wk.kept' [2,3,7,8,21,22,23] 4 (nb rfl) (by first | rfl | simp only[go_sem,seval,reduceCtorEq,bX,aW,aV,bD,cg,cut,List.contains_cons,List.contains_nil,Nat.reduceBEq,Int.natCast_zero,Int.natCast_add,Int.natCast_one,cy]) (by first | rfl | simp only[go_sem,seval,reduceCtorEq,bX,aW,aV,bD,cg,cut,List.contains_cons,List.contains_nil,Nat.reduceBEq,Int.natCast_zero,Int.natCast_add,Int.natCast_one,cy])) fun k hk=> ?_
 unfold L0_impl_joinAxes
 by_cases hlt:k<(aK a.labels b.labels).length
 ·have h1:(k:Int)<(aK a.labels b.labels).length:=by omega
  have hx:(aK a.labels b.labels)[k]? =some (aK a.labels b.labels)[k]:=List.getElem?_eq_getElem hlt
  have hm:=aX.1 (List.getElem_mem hlt)
  have hg:=sd (a:=a) (b:=b) hlt
  generalize hl:(aK a.labels b.labels)[k]=l at*
  simp(disch:=omega) only[go_sem,seval,reduceCtorEq,h1,hx]
  (refine aC (kp (t:=a) (x:=l) (by omega)) ?_ ?_ ?_;(focus (simp only[go_sem,seval,reduceCtorEq];done));(first | rfl | (focus (simp only[go_sem];done))))
  simp only[go_sem,seval,reduceCtorEq]
  (refine aa (kp (t:=b) (x:=l) (by omega)) ?_ ?_ ?_;(focus (simp only[go_sem,seval,reduceCtorEq];done));(first | rfl | (focus (simp only[go_sem];done))))
  have hlen:(mix (aM a b) (List.replicate (aK a.labels b.labels).length 0) k).length=(aK a.labels b.labels).length:=by rw[gR (by simp [ld]),ld]
  have hmn:=fH (l:=aM a b) (r:=List.replicate (aK a.labels b.labels).length 0) (k:=k) (by simp [ld]) hg
  by_cases hma:l∈a.labels
  ·obtain⟨i,hi1,hi2,hi3,hi4⟩:=dq lda hma
   have c1:(i:Int)≥0:=by omega
   have c2:(i:Int)<a.dims.length:=by omega
   rw[if_pos (ba.2 hma)]at hg hmn
   by_cases hmb:l∈b.labels
   ·obtain⟨j,hj1,hj2,hj3,hj4⟩:=dq ldb hmb
    have c3:(j:Int)≥0:=by omega
    have c4:(j:Int)<b.dims.length:=by omega
    have e:=qz h hma hmb
    have he:(aE a l !=aE b l)=false:=by simp [e]
    simp(disch:=omega) only[go_sem,seval,reduceCtorEq,hi3,hj3,c1,c2,c3,c4,hi4,hj4,he,h1]
    refine⟨by rw[hlen];omega, ?_⟩
    (refine Next.mk hlt (Wk.kept' [2,3,7,8,21,22,23] 4 (nb rfl) ?_ ?_)<;>first | rfl | (simp only[go_sem,seval,reduceCtorEq,bX,aW,aV,bD,cg,cut,List.contains_cons,List.contains_nil,Nat.reduceBEq,Int.natCast_zero,Int.natCast_add,Int.natCast_one,hmn];done) | skip)
   ·have hj3:=gf hmb
    simp(disch:=omega) only[go_sem,seval,reduceCtorEq,hi3,hj3,c1,c2,hi4,h1]
    refine⟨by rw[hlen];omega, ?_⟩
    (refine Next.mk hlt (Wk.kept' [2,3,7,8,21,22,23] 4 (nb rfl) ?_ ?_)<;>first | rfl | (simp only[go_sem,seval,reduceCtorEq,bX,aW,aV,bD,cg,cut,List.contains_cons,List.contains_nil,Nat.reduceBEq,Int.natCast_zero,Int.natCast_add,Int.natCast_one,hmn];done) | skip)
  ·have hi3:=gf hma
   have hmb:=hm.resolve_left hma
   obtain⟨j,hj1,hj2,hj3,hj4⟩:=dq ldb hmb
   have c3:(j:Int)≥0:=by omega
   have c4:(j:Int)<b.dims.length:=by omega
   rw[if_neg (fun e=>hma (ba.1 e))]at hg hmn
   simp(disch:=omega) only[go_sem,seval,reduceCtorEq,hi3,hj3,c3,c4,hj4,h1]
   refine⟨by rw[hlen];omega, ?_⟩
   (refine Next.mk hlt (Wk.kept' [2,3,7,8,21,22,23] 4 (nb rfl) ?_ ?_)<;>first | rfl | (simp only[go_sem,seval,reduceCtorEq,bX,aW,aV,bD,cg,cut,List.contains_cons,List.contains_nil,Nat.reduceBEq,Int.natCast_zero,Int.natCast_add,Int.natCast_one,hmn];done) | skip)
 ·have h1:¬ (k:Int)<(aK a.labels b.labels).length:=by omega
  simp(disch:=omega) only[go_sem,seval,reduceCtorEq,h1]
  (refine FnEnd.mk (nb rfl) rfl (of_decide_eq_true rfl) ?_ ?_<;>try simp only[go_sem,seval,reduceCtorEq])
  rw[gt (by simp;omega) (by omega)]
theorem vb {a b:Ten} (ha:axOk a.labels a.dims) (hb:axOk b.labels b.dims) (h:fP a b=false):
  Does Tryz.prog 85 [tenA a,tenA b] [] (.tup [.nil,.nil,.d (.bool false)]) []:=by
 have la:=ha.1
 have lb:=hb.1
 have lj:=kG a.labels b.labels
 have ld:=nP a b
 have lda:=ha.len
 have ldb:=hb.len
 (refine spec_of (by kernel_rfl) Tryz.func85 jr (fnOk (nb rfl) ?_);unfold C_impl_joinAxes)
 (simp only[Nat.reduceSub,List.length_cons,List.length_nil,Nat.reduceAdd,am,al,aj,ai,ah,af,ae,ac];try simp only[au]);(simp only[go_sem,seval,reduceCtorEq,List.replicate])
 (refine aa (fU (a:=a.labels) (b:=b.labels) (by omega) (by omega)) ?_ ?_ ?_;(focus (simp only[go_sem,seval,reduceCtorEq];done));(first | rfl | (focus (simp only[go_sem];done))))
 simp(disch:=omega) only[go_sem,seval,reduceCtorEq]
 refine⟨by omega, ?_⟩
 refine i9 ((aK a.labels b.labels).length) (fun k=>∀ l∈(aK a.labels b.labels).take k,l∈a.labels→l∈b.labels→aE a l=aE b l) (fun k=>(ch (.any) (.any) (.ptr 0 0) (.ptr 1 0) (.any) (.any) (.any) (.own 2 0 (aK a.labels b.labels).length) (.own 3 0 (aK a.labels b.labels).length) (.any) (.any) (.any) (.any) (.any) (.any) (.any) (ch (.any) (.any) (.any) (.any) (.any) (.own 2 0 (aK a.labels b.labels).length) (.d (.int (aK a.labels b.labels).length)) (.d (.int k)) (.any) (.any) (.any) (.any) (.any) (.any) (.any) (.any) (ch (.any) (.any) (.any) (.any) (.any) (.any) (.any) (.any) (.any) (.any) (.any) (.any) (.any) (.any) (.any) (.any) (ch (.any) (.any) (.any) (.any) (.any) (.any) (.any) (.any) (.any) (.any) (.any) (.any) (.any) (.any) (.any) (.any) [.any,.any,.any,.any,.any,.any,.any,.any,.any,.any]))))) (fun k=>[some ⟨0,false,[.d (ints a.labels),.d (ints a.dims),.d (ints a.data)]⟩,some ⟨0,false,[.d (ints b.labels),.d (ints b.dims),.d (ints b.data)]⟩,some ⟨1,true,iv (aK a.labels b.labels)⟩,some ⟨1,true,iv (mix (aM a b) (List.replicate (aK a.labels b.labels).length 0) k)⟩]) (by simp) (Wk.kept' [2,3,7,8,21,22,23] 4 (nb rfl) (by first | rfl | simp only[go_sem,seval,reduceCtorEq,bX,aW,aV,bD,cg,cut,List.contains_cons,List.contains_nil,Nat.reduceBEq,Int.natCast_zero,Int.natCast_add,Int.natCast_one,cy]) (by first | rfl | simp only[go_sem,seval,reduceCtorEq,bX,aW,aV,bD,cg,cut,List.contains_cons,List.contains_nil,Nat.reduceBEq,Int.natCast_zero,Int.natCast_add,Int.natCast_one,cy])) fun k hk hi=> ?_
 unfold L0_impl_joinAxes
 by_cases hlt:k<(aK a.labels b.labels).length
 ·have h1:(k:Int)<(aK a.labels b.labels).length:=by omega
  have hx:(aK a.labels b.labels)[k]? =some (aK a.labels b.labels)[k]:=List.getElem?_eq_getElem hlt
  have hm:=aX.1 (List.getElem_mem hlt)
  have hg:=sd (a:=a) (b:=b) hlt
  have hi':∀ (P:Prop),(P→P)→((aK a.labels b.labels)[k]∈a.labels→(aK a.labels b.labels)[k]∈b.labels→aE a (aK a.labels b.labels)[k]=aE b (aK a.labels b.labels)[k])→∀ l∈(aK a.labels b.labels).take (k+1),l∈a.labels→l∈b.labels→aE a l=aE b l:=by
   intro _ _ hh l hl
   rw[bm hlt,List.mem_append]at hl
   rcases hl with hl | hl
   ·exact hi l hl
   ·simp only[List.mem_singleton]at hl
    rw[hl];exact hh
  replace hi':=hi' True id
  generalize hl:(aK a.labels b.labels)[k]=l at*
  simp(disch:=omega) only[go_sem,seval,reduceCtorEq,h1,hx]
  (refine aC (kp (t:=a) (x:=l) (by omega)) ?_ ?_ ?_;(focus (simp only[go_sem,seval,reduceCtorEq];done));(first | rfl | (focus (simp only[go_sem];done))))
  simp only[go_sem,seval,reduceCtorEq]
  (refine aa (kp (t:=b) (x:=l) (by omega)) ?_ ?_ ?_;(focus (simp only[go_sem,seval,reduceCtorEq];done));(first | rfl | (focus (simp only[go_sem];done))))
  have hlen:(mix (aM a b) (List.replicate (aK a.labels b.labels).length 0) k).length=(aK a.labels b.labels).length:=by rw[gR (by simp [ld]),ld]
  have hmn:=fH (l:=aM a b) (r:=List.replicate (aK a.labels b.labels).length 0) (k:=k) (by simp [ld]) hg
  by_cases hma:l∈a.labels
  ·obtain⟨i,hi1,hi2,hi3,hi4⟩:=dq lda hma
   have c1:(i:Int)≥0:=by omega
   have c2:(i:Int)<a.dims.length:=by omega
   rw[if_pos (ba.2 hma)]at hg hmn
   by_cases hmb:l∈b.labels
   ·obtain⟨j,hj1,hj2,hj3,hj4⟩:=dq ldb hmb
    have c3:(j:Int)≥0:=by omega
    have c4:(j:Int)<b.dims.length:=by omega
    by_cases e:aE a l=aE b l
    ·have he:(aE a l !=aE b l)=false:=by simp [e]
     simp(disch:=omega) only[go_sem,seval,reduceCtorEq,hi3,hj3,c1,c2,c3,c4,hi4,hj4,he,h1]
     refine⟨by rw[hlen];omega, ?_⟩
     (refine NextI.mk hlt (hi' (fun _ _=>e)) (Wk.kept' [2,3,7,8,21,22,23] 4 (nb rfl) ?_ ?_)<;>first | rfl | (simp only[go_sem,seval,reduceCtorEq,bX,aW,aV,bD,cg,cut,List.contains_cons,List.contains_nil,Nat.reduceBEq,Int.natCast_zero,Int.natCast_add,Int.natCast_one,hmn];done) | skip)
    ·have he:(aE a l !=aE b l)=true:=by simp [e]
     simp(disch:=omega) only[go_sem,seval,reduceCtorEq,hi3,hj3,c1,c2,c3,c4,hi4,hj4,he,h1]
     (refine FnEnd.mk (nb rfl) rfl (of_decide_eq_true rfl) ?_ ?_<;>try simp only[go_sem,seval,reduceCtorEq])
   ·have hj3:=gf hmb
    simp(disch:=omega) only[go_sem,seval,reduceCtorEq,hi3,hj3,c1,c2,hi4,h1]
    refine⟨by rw[hlen];omega, ?_⟩
    (refine NextI.mk hlt (hi' (fun _ h=>absurd h hmb)) (Wk.kept' [2,3,7,8,21,22,23] 4 (nb rfl) ?_ ?_)<;>first | rfl | (simp only[go_sem,seval,reduceCtorEq,bX,aW,aV,bD,cg,cut,List.contains_cons,List.contains_nil,Nat.reduceBEq,Int.natCast_zero,Int.natCast_add,Int.natCast_one,hmn];done) | skip)
  ·have hi3:=gf hma
   have hmb:=hm.resolve_left hma
   obtain⟨j,hj1,hj2,hj3,hj4⟩:=dq ldb hmb
   have c3:(j:Int)≥0:=by omega
   have c4:(j:Int)<b.dims.length:=by omega
   rw[if_neg (fun e=>hma (ba.1 e))]at hg hmn
   simp(disch:=omega) only[go_sem,seval,reduceCtorEq,hi3,hj3,c3,c4,hj4,h1]
   refine⟨by rw[hlen];omega, ?_⟩
   (refine NextI.mk hlt (hi' (fun h=>absurd h hma)) (Wk.kept' [2,3,7,8,21,22,23] 4 (nb rfl) ?_ ?_)<;>first | rfl | (simp only[go_sem,seval,reduceCtorEq,bX,aW,aV,bD,cg,cut,List.contains_cons,List.contains_nil,Nat.reduceBEq,Int.natCast_zero,Int.natCast_add,Int.natCast_one,hmn];done) | skip)
 ·rw[List.take_of_length_le (by omega)]at hi
  rw[wi fun l hl hl'=>hi l (aX.2 (.inl hl)) hl hl']at h
  cases h
set_option maxRecDepth 100000
theorem mR {t:Ten} (h:TSz 1048576 t):Does Tryz.prog 41 [tenA t] [] (ownT 0 t) (stoT t):=by
 (refine spec_of (by kernel_rfl) Tryz.func41 my (fnOk (nb rfl) ?_);unfold C_impl_copyTensor)
 (simp only[Nat.reduceSub,List.length_cons,List.length_nil,Nat.reduceAdd,am,al,aj,ai,ah,af,ae,ac];try simp only[au]);(simp only[go_sem,seval,reduceCtorEq,List.replicate])
 (refine aC (cz (xs:=t.labels) h.l.up.len) ?_ ?_ ?_;(focus (simp only[go_sem,seval,reduceCtorEq];done));(first | rfl | (focus (simp only[go_sem];done))))
 simp only[go_sem,seval,reduceCtorEq]
 (refine aC (cz (xs:=t.dims) h.d.up.len) ?_ ?_ ?_;(focus (simp only[go_sem,seval,reduceCtorEq];done));(first | rfl | (focus (simp only[go_sem];done))))
 simp only[go_sem,seval,reduceCtorEq]
 (refine aa (cz (xs:=t.data) h.x.up.len) ?_ ?_ ?_;(focus (simp only[go_sem,seval,reduceCtorEq];done));(first | rfl | (focus (simp only[go_sem];done))))
 simp only[go_sem,seval,reduceCtorEq]
 (refine FnEnd.mk (nb rfl) rfl (of_decide_eq_true rfl) ?_ ?_<;>try simp only[go_sem,seval,reduceCtorEq])
theorem bL:iv []=[]:=rfl
attribute [go_sem] bL
set_option maxRecDepth 100000
def putE (xs:List Int) (off:Nat) (ys:List Int):List Int:=xs.take off++ys++xs.drop (off+ys.length)
theorem bM {xs ys:List Int} {off:Nat} (h:off+ys.length≤xs.length):(putE xs off ys).length=xs.length:=by simp [putE];omega
theorem il {xs ys:List Int} {off i:Nat} (h:off+ys.length≤xs.length):(putE xs off ys)[i]? =if off≤i∧i<off+ys.length then ys[i-off]? else xs[i]? :=by
 unfold putE
 by_cases h1:i<off
 ·rw[if_neg (by omega),List.append_assoc,List.getElem?_append_left (by simp;omega),List.getElem?_take,if_pos h1]
 ·by_cases h2:i<off+ys.length
  ·rw[if_pos (by omega),List.getElem?_append_left (by simp;omega),List.getElem?_append_right (by simp;omega)]
   congr 1
   simp;omega
  ·rw[if_neg (by omega),List.getElem?_append_right (by simp;omega),List.getElem?_drop]
   congr 1
   simp;omega
theorem y6 {xs ys:List Int} {off k:Nat} (h:off+ys.length≤xs.length) (hk:k<ys.length):
  (putE xs off (ys.take k)).take (off+k)++[ys[k]]++(putE xs off (ys.take k)).drop (off+k+1)=putE xs off (ys.take (k+1)):=by
 have hl:(ys.take k).length=k:=by simp;omega
 rw[cI (by rw[bM (by omega)];omega)]
 refine List.ext_getElem? fun i=> ?_
 rw[List.getElem?_set,il (by omega),il (by simp;omega),bM (by omega)]
 have hl2:(ys.take (k+1)).length=k+1:=by simp;omega
 rw[hl,hl2]
 by_cases h1:off+k=i
 ·subst h1
  rw[if_pos rfl,if_pos (by omega),if_pos (by omega),List.getElem?_take,if_pos (by omega),show off+k-off=k by omega,List.getElem?_eq_getElem hk]
 ·rw[if_neg h1]
  by_cases h2:off≤i∧i<off+k
  ·rw[if_pos h2,if_pos (by omega),List.getElem?_take,List.getElem?_take,if_pos (by omega),if_pos (by omega)]
  ·rw[if_neg h2,if_neg (by omega)]
theorem rP (xs:List Int) (off:Nat):putE xs off []=xs:=by simp [putE]
theorem At {x wd:Nat} {kk pp nn:Int} {t:Ten} {ys:List Int} (hw:ar ⟨kk,pp,nn⟩=(wd:Int)) (hy:ys.length=wd) (h1:1≤wd∧wd≤6) (hx:x*wd+wd≤t.data.length) (hx2:x≤1099511627776) (h:t.data.length≤1099511627776):
  Does Tryz.prog 78 [bn kk pp nn,ownT 0 t,.d (.int x),.d (ints ys)] (stoF t) (.tup []) (stoF ⟨t.labels,t.dims,putE t.data (x*wd) ys⟩):=by
 (refine spec_of (by kernel_rfl) Tryz.func78 re (fnOk (nb rfl) ?_);unfold C_spec_l05Put)
 (simp only[Nat.reduceSub,List.length_cons,List.length_nil,Nat.reduceAdd,am,al,aj,ai,ah,af,ae,ac];try simp only[au]);(simp only[go_sem,seval,reduceCtorEq,List.replicate])
 (refine aa (fj kk pp nn) ?_ ?_ ?_;(focus (simp only[go_sem,seval,reduceCtorEq];done));(first | rfl | (focus (simp only[go_sem];done))))
 simp only[go_sem,seval,reduceCtorEq,hw]
 refine ic (ys.length) (fun k=>(ch (.any) (.any) (.d (.int x)) (.d (ints ys)) (.any) (.ptr 4 0) (.any) (.any) (.d (.int wd)) (.any) (.any) (.any) (.any) (.d (.int ys.length)) (.d (.int k)) (.any) [.any,.any,.any,.any,.any,.any,.any,.any,.any,.any,.any,.any,.any,.any])) (fun k=>[some ⟨1,false,iv t.labels⟩,some ⟨1,false,iv t.dims⟩,some ⟨1,false,iv (putE t.data (x*wd) (ys.take k))⟩,some ⟨0,false,[.d (.int kk),.d (.int pp),.d (.int nn)]⟩,some ⟨0,false,[.own 0 0 t.labels.length,.own 1 0 t.dims.length,.own 2 0 t.data.length]⟩]) (Wk.kept' [2,3,5,8,13,14] 5 (nb rfl) (by first | rfl | simp only[go_sem,seval,reduceCtorEq,bX,aW,aV,bD,cg,cut,List.contains_cons,List.contains_nil,Nat.reduceBEq,Int.natCast_zero,Int.natCast_add,Int.natCast_one,List.take_zero,rP]) (by first | rfl | simp only[go_sem,seval,reduceCtorEq,bX,aW,aV,bD,cg,cut,List.contains_cons,List.contains_nil,Nat.reduceBEq,Int.natCast_zero,Int.natCast_add,Int.natCast_one,List.take_zero,rP])) fun k hk=> ?_
 unfold L0_spec_l05Put
 by_cases hlt:k<ys.length
 ·have h1:(k:Int)<ys.length:=by omega
  have hx:ys[k]? =some ys[k]:=List.getElem?_eq_getElem hlt
  have e1:(x:Int)*wd=(x*wd:Nat):=by push_cast;rfl
  have e2:((x*wd:Nat):Int)+k=(x*wd+k:Nat):=by push_cast;rfl
  have hlk:(ys.take k).length=k:=by simp;omega
  have hpl:(putE t.data (x*wd) (ys.take k)).length=t.data.length:=bM (by omega)
  have hn:=y6 (xs:=t.data) (ys:=ys) (off:=x*wd) (k:=k) (by omega) hlt
  simp(disch:=omega) only[go_sem,seval,reduceCtorEq,h1,hx,e1,e2]
  refine⟨by omega,by rw[hpl];omega, ?_⟩
  (refine Next.mk hlt (Wk.kept' [2,3,5,8,13,14] 5 (nb rfl) ?_ ?_)<;>first | rfl | (simp only[go_sem,seval,reduceCtorEq,bX,aW,aV,bD,cg,cut,List.contains_cons,List.contains_nil,Nat.reduceBEq,Int.natCast_zero,Int.natCast_add,Int.natCast_one,hn];done) | skip)
 ·have h1:¬ (k:Int)<ys.length:=by omega
  simp(disch:=omega) only[go_sem,seval,reduceCtorEq,h1]
  (refine FnEnd.mk (nb rfl) rfl (of_decide_eq_true rfl) ?_ ?_<;>try simp only[go_sem,seval,reduceCtorEq])
  all_goals rw[List.take_of_length_le (by omega)]
set_option maxRecDepth 100000
def gM (ls L:List Int):Bool:=decide (L.length=ls.length∧∀ k (hk:k<L.length),L[k]∈ls∧L[k]∉L.take k)
theorem um {ls L:List Int} (k:Nat) (hk:k<L.length) (h:¬ (L[k]∈ls∧L[k]∉L.take k)):gM ls L=false:=decide_eq_false fun e=>h (e.2 k hk)
theorem lR {ls L:List Int} (h1:ls.length≤1099511627776) (h2:L.length≤1099511627776):Does Tryz.prog 92 [.d (ints ls),.d (ints L)] [] (.d (.bool (gM ls L))) []:=by
 (refine spec_of (by kernel_rfl) Tryz.func92 mr (fnOk (nb rfl) ?_);unfold C_impl_sameLabels)
 (simp only[Nat.reduceSub,List.length_cons,List.length_nil,Nat.reduceAdd,am,al,aj,ai,ah,af,ae,ac];try simp only[au]);(simp only[go_sem,seval,reduceCtorEq,List.replicate])
 by_cases hl:L.length=ls.length
 rotate_left
 ·have c:((L.length:Int) !=ls.length)=true:=by simp;omega
  have e:gM ls L=false:=decide_eq_false fun x=>hl x.1
  simp(disch:=omega) only[go_sem,seval,reduceCtorEq,c,e]
  (refine FnEnd.mk (nb rfl) rfl (of_decide_eq_true rfl) ?_ ?_<;>try simp only[go_sem,seval,reduceCtorEq])
 have c:((L.length:Int) !=ls.length)=false:=by simp [hl]
 simp(disch:=omega) only[go_sem,seval,reduceCtorEq,c]
 refine cP (L.length) (mkB 31 2147450992) (fun k=>∀ j (hj:j<L.length),j<k→L[j]∈ls∧L[j]∉L.take j) (fun k=>[(14,.d (.int k))]) (fun k=>[]) (hi:=fun j _ hj=>absurd hj (Nat.not_lt_zero j)) (h1:=by first | (simp only[go_sem,seval,reduceCtorEq,nz,na,n1];first | done | rfl) | rfl) (h2:=by first | (simp only[go_sem,seval,reduceCtorEq,nz,na,n1];first | done | rfl) | rfl) (hr:=fun k hk hi=> ?_)
 unfold L0_impl_sameLabels
 by_cases hlt:k<L.length
 ·have c1:(k:Int)<L.length:=by omega
  have g:L[k]? =some L[k]:=List.getElem?_eq_getElem hlt
  have hlk:(L.take k).length=k:=by simp;omega
  have c2:(k:Int)≤L.length:=by omega
  simp(disch:=omega) only[go_sem,seval,reduceCtorEq,c1,c2,g]
  simp only[true_or,Int.sub_zero,Int.toNat_natCast,go_sem,seval,reduceCtorEq]
  (refine aa (fJ (xs:=L.take k) (x:=L[k]) (by omega)) ?_ ?_ ?_;(focus (simp only[go_sem,seval,reduceCtorEq,hlk];done));(first | rfl | (focus (simp only[go_sem];done))))
  cases hh:has (L.take k) L[k]
  ·simp only[go_sem,seval,reduceCtorEq,hh]
   (refine aa (fJ (xs:=ls) (x:=L[k]) (by omega)) ?_ ?_ ?_;(focus (simp only[go_sem,seval,reduceCtorEq];done));(first | rfl | (focus (simp only[go_sem];done))))
   cases hm:has ls L[k]
   ·have e:=um (ls:=ls) k hlt (fun x=>by rw[ba.2 x.1]at hm;cases hm)
    simp only[go_sem,seval,reduceCtorEq,hm,e]
    (refine FnEnd.mk (nb rfl) rfl (of_decide_eq_true rfl) ?_ ?_<;>try simp only[go_sem,seval,reduceCtorEq])
   ·simp(disch:=omega) only[go_sem,seval,reduceCtorEq,hm]
    have hI:∀ j (hj:j<L.length),j<k+1→L[j]∈ls∧L[j]∉L.take j:=fun j hj hjk=>by
     by_cases e:j=k
     ·subst e;exact⟨ba.1 hm,bH.1 hh⟩
     ·exact hi j hj (by omega)
    (refine NextI.drop (mkB 31 2147450992) (by omega) (hI) (h1:= ?_) (h2:= ?_)<;>first | (simp only[go_sem,seval,reduceCtorEq,nz,na,n1];first | done | rfl) | rfl | skip)
  ·have e:=um (ls:=ls) k hlt (fun x=>by rw[bH.2 x.2]at hh;cases hh)
   simp only[go_sem,seval,reduceCtorEq,hh,e]
   (refine FnEnd.mk (nb rfl) rfl (of_decide_eq_true rfl) ?_ ?_<;>try simp only[go_sem,seval,reduceCtorEq])
 ·have c1:¬ (k:Int)<L.length:=by omega
  have e:gM ls L=true:=decide_eq_true ⟨hl,fun j hj=>hi j hj (by omega)⟩
  simp(disch:=omega) only[go_sem,seval,reduceCtorEq,c1,e]
  (refine FnEnd.mk (nb rfl) rfl (of_decide_eq_true rfl) ?_ ?_<;>try simp only[go_sem,seval,reduceCtorEq])
theorem mc:∀ {L ls:List Int},L.Nodup→(∀ x∈L,x∈ls)→L.length≤ls.length
 | [],ls,_,_=>Nat.zero_le _
 | l :: L,ls,hn,hs=>by
  simp only[List.nodup_cons]at hn
  have hl:l∈ls:=hs l (by simp)
  have h1:=mc (L:=L) (ls:=ls.erase l) hn.2 (fun y hy=>(List.mem_erase_of_ne (fun (e:y=l)=>hn.1 (e ▸ hy))).2 (hs y (by simp [hy])))
  have h2:=List.length_erase_of_mem hl
  have h3:=List.length_pos_of_mem hl
  simp only[List.length_cons]
  omega
def wol (ls L:List Int):List Int:=ls.filter fun x=> !has L x
theorem eo {r:Rg} {xs:List Int} (h:∀ x∈xs,0≤x∧x≤top r):fits r xs:=fun k hk=>h _ (fh xs k hk)
theorem eN {r:Rg} {xs:List Int} (h:fits r xs):∀ x∈xs,0≤x∧x≤top r:=fun x hx=>by
 obtain⟨k,hk,rfl⟩:=List.getElem_of_mem hx
 have:=h k hk
 rwa [ao hk]at this
theorem z4 {r:Rg} {ls ds xs:List Int} (h1:aq r=true) (h2:(xs.length:Int)=ab ds*ar r) (h3:fits r xs):aA r ls ds xs=decide (be ls ds≠ -1):=by
 rw[aA,h1,show ju r xs=true from decide_eq_true h3,Bool.true_and,Bool.and_true]
 rcases d9 ls ds with h | ⟨_,_,h,_⟩
 ·simp [h]
 ·rw[h]
  by_cases e:ab ds= -1<;>simp [e,h2]
theorem kV:∀ {l M:List Int},l.Nodup→(∀ x∈l,x∈M)→l.length≤M.length
 | [],_,_,_=>Nat.zero_le _
 | x :: l,M,h,hs=>by
  rw[List.nodup_cons]at h
  have hx:=hs x (List.mem_cons_self ..)
  have h1:=kV (l:=l) (M:=M.erase x) h.2 fun y hy=>(List.mem_erase_of_ne (fun e=>h.1 (by rwa [← e]))).2 (hs y (List.mem_cons_of_mem _ hy))
  have h2:=List.length_erase_of_mem hx
  have h3:=List.length_pos_of_mem hx
  simp only[List.length_cons]
  omega
theorem rW {l:List Int} (h:l.Nodup) (hb:∀ x∈l,0≤x∧x≤99):l.length≤100:=by
 have h1:=kV (M:=(List.range 100).map fun (i:Nat)=>(i:Int)) h fun x hx=>by
  have:=hb x hx
  exact List.mem_map.2 ⟨x.toNat,by simp;omega,by omega⟩
 simpa using h1
theorem v9 {a b:List Int} (ha:a.Nodup) (hb:b.Nodup):(aK a b).Nodup:=by
 unfold aK
 refine List.nodup_append.2 ⟨ha,hb.filter _,fun x hx y hy e=> ?_⟩
 subst e
 simp only[List.mem_filter,Bool.not_eq_true',bH]at hy
 exact hy.2 hx
section
variable {L : List (List Int)} {x : Int} {k : Nat}
end
end Go.Proofs.YtneocijmbnhblaaGreat
