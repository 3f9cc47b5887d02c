/-
 Contracts: joined labels and axes, the size of a join. No condition.
-/
import Derived.Test.YtobhmajhachnaaaGreatDoorRng
import Derived.Test.YtobhmajhachnaaaGreatDoorLiftG
set_option linter.unusedSimpArgs false
set_option linter.unusedVariables false
namespace Go.Proofs.YtobhmajhachnaaaGreatDoor
open Go.RowKit Go.Lift Plain
set_option maxRecDepth 100000
theorem qb{xs:List Int}(h:xs.length≤1099511627776):Does Tryz.prog 60 [.d (ints xs)] [] (.own 0 0 xs.length) [some ⟨1,true,iv xs⟩]:=by
 refine zS Tryz.func60 xd ?_;unfold pA;refine zT ?_;refine⟨by omega, ?_⟩;exact zX
theorem n3{a b:List Int}(ha:a.length≤1048576)(hb:b.length≤1048576):Does Tryz.prog 154 [.d (ints a),.d (ints b)] [] (.own 0 0 (aF a b).length) [some ⟨1,true,iv (aF a b)⟩]:=by
 refine zS Tryz.func154 sM ?_;unfold ll;refine zT ?_;(refine zC (cj (xs:=a) (by omega)) ?_);refine zU ?_
 refine jc (b.length) (fun k=>(ch (.d (ints a)) (.any) (.any) (.any) (.any) (.own 0 0 (a++(b.take k).filter fun x=> !has a x).length) (.any) (.any) (.any) (.any) (.d (ints b)) (.d (.int b.length)) (.d (.int k)) (.any) (.any) (.any) [.any,.any,.any,.any,.any,.any,.any,.any,.any,.any])) (fun k=>[some ⟨1,true,iv (a++(b.take k).filter fun x=> !has a x)⟩]) (Wk.kept' [0,5,10,11,12] 1 (nb rfl) (by first|rfl|simp only[go_sem,seval,reduceCtorEq,bH,aL,aK,bu,bJ,cut,List.contains_cons,List.contains_nil,Nat.reduceBEq,Int.natCast_zero,Int.natCast_add,Int.natCast_one,List.take_zero,List.filter_nil,List.append_nil]) (by first|rfl|simp only[go_sem,seval,reduceCtorEq,bH,aL,aK,bu,bJ,cut,List.contains_cons,List.contains_nil,Nat.reduceBEq,Int.natCast_zero,Int.natCast_add,Int.natCast_one,List.take_zero,List.filter_nil,List.append_nil])) fun k hk=> ?_
 unfold jU;by_cases hlt:k<b.length
 ·have h1:(k:Int)<b.length:=by omega
  have hx:b[k]? =some b[k]:=zg hlt;have hf:=dS b k fun x=> !has a x
  simp(disch:=omega) only[go_sem,seval,reduceCtorEq,h1,hx];(refine zC (dO (xs:=a) (x:=b[k]) (by omega)) ?_);cases he:has a b[k]
  ·simp(disch:=omega) only[go_sem,seval,reduceCtorEq,he]
   refine⟨by rw[List.length_append];omega, ?_⟩;(refine Next.mk hlt (Wk.kept' [0,5,10,11,12] 1 (nb rfl) ?_ ?_)<;>first|rfl|(simp only[go_sem,seval,reduceCtorEq,bH,aL,aK,bu,bJ,cut,List.contains_cons,List.contains_nil,Nat.reduceBEq,Int.natCast_zero,Int.natCast_add,Int.natCast_one,dR (p:=fun x=> !has a x) hlt (by rw[he];rfl),List.length_append,List.append_assoc,Nat.add_assoc];done)|skip)
  ·simp(disch:=omega) only[go_sem,seval,reduceCtorEq,he]
   (refine Next.mk hlt (Wk.kept' [0,5,10,11,12] 1 (nb rfl) ?_ ?_)<;>first|rfl|(simp only[go_sem,seval,reduceCtorEq,bH,aL,aK,bu,bJ,cut,List.contains_cons,List.contains_nil,Nat.reduceBEq,Int.natCast_zero,Int.natCast_add,Int.natCast_one,dy (p:=fun x=> !has a x) hlt (by rw[he];rfl)];done)|skip)
 ·have h1:¬(k:Int)<b.length:=by omega
  simp(disch:=omega) only[go_sem,seval,reduceCtorEq,h1];(refine zE ?_ ?_<;>try simp only[go_sem,seval,reduceCtorEq])
  all_goals rw[zt (by omega)];rfl
theorem uE(a b:Ten):(aB a b).length=(aF a.labels b.labels).length:=by simp [aB]
theorem zy{a b:Ten}{k:Nat}(h:k<(aF a.labels b.labels).length):(aB a b)[k]? =some (if has a.labels (aF a.labels b.labels)[k]=true then ao a (aF a.labels b.labels)[k] else ao b (aF a.labels b.labels)[k]):=by
 simp [aB,h]
theorem Dx{a b:Ten}(ha:axOk a.labels a.dims)(hb:axOk b.labels b.dims)(h:gZ a b=true):
  Does Tryz.prog 148 [tenA a,tenA b] [] (.tup [.own 0 0 (aF a.labels b.labels).length,.own 1 0 (aF a.labels b.labels).length,.d (.bool true)]) [some ⟨1,true,iv (aF a.labels b.labels)⟩,some ⟨1,true,iv (aB a b)⟩]:=by
 have la:=ha.1;have lb:=hb.1;have lj:=qd a.labels b.labels;have ld:=uE a b;have lda:=ha.len;have ldb:=hb.len;refine zS Tryz.func148 nu ?_;unfold i6;refine zT ?_;(refine zC (n3 (a:=a.labels) (b:=b.labels) (by omega) (by omega)) ?_);refine zV ?_;refine⟨by omega, ?_⟩
 refine jc ((aF a.labels b.labels).length) (fun k=>(ch (.any) (.any) (.ptr 0 0) (.ptr 1 0) (.any) (.any) (.any) (.own 2 0 (aF a.labels b.labels).length) (.own 3 0 (aF a.labels b.labels).length) (.any) (.any) (.any) (.any) (.any) (.any) (.any) (ch (.any) (.any) (.any) (.any) (.any) (.own 2 0 (aF a.labels b.labels).length) (.d (.int (aF a.labels b.labels).length)) (.d (.int k)) (.any) (.any) (.any) (.any) (.any) (.any) (.any) (.any) (ch (.any) (.any) (.any) (.any) (.any) (.any) (.any) (.any) (.any) (.any) (.any) (.any) (.any) (.any) (.any) (.any) (ch (.any) (.any) (.any) (.any) (.any) (.any) (.any) (.any) (.any) (.any) (.any) (.any) (.any) (.any) (.any) (.any) [.any,.any,.any,.any,.any,.any,.any,.any,.any,.any]))))) (fun k=>[some ⟨0,false,[.d (ints a.labels),.d (ints a.dims),.d (ints a.data)]⟩,some ⟨0,false,[.d (ints b.labels),.d (ints b.dims),.d (ints b.data)]⟩,some ⟨1,true,iv (aF a.labels b.labels)⟩,some ⟨1,true,iv (mix (aB a b) (List.replicate (aF a.labels b.labels).length 0) k)⟩]) (Wk.kept' [2,3,7,8,21,22,23] 4 (nb rfl) (by first|rfl|simp only[go_sem,seval,reduceCtorEq,bH,aL,aK,bu,bJ,cut,List.contains_cons,List.contains_nil,Nat.reduceBEq,Int.natCast_zero,Int.natCast_add,Int.natCast_one,cA]) (by first|rfl|simp only[go_sem,seval,reduceCtorEq,bH,aL,aK,bu,bJ,cut,List.contains_cons,List.contains_nil,Nat.reduceBEq,Int.natCast_zero,Int.natCast_add,Int.natCast_one,cA])) fun k hk=> ?_
 unfold gb;by_cases hlt:k<(aF a.labels b.labels).length
 ·have h1:(k:Int)<(aF a.labels b.labels).length:=by omega
  have hx:(aF a.labels b.labels)[k]? =some (aF a.labels b.labels)[k]:=zg hlt;have hm:=bm.1 (List.getElem_mem hlt);have hg:=zy (a:=a) (b:=b) hlt;generalize hl:(aF a.labels b.labels)[k]=l at*;simp(disch:=omega) only[go_sem,seval,reduceCtorEq,h1,hx];(refine zD (gK (t:=a) (x:=l) (by omega)) ?_);refine zU ?_;(refine zC (gK (t:=b) (x:=l) (by omega)) ?_);have hlen:(mix (aB a b) (List.replicate (aF a.labels b.labels).length 0) k).length=(aF a.labels b.labels).length:=by rw[kD (by simp [ld]),ld]
  have hmn:=gE (l:=aB a b) (r:=List.replicate (aF a.labels b.labels).length 0) (k:=k) (by simp [ld]) hg;by_cases hma:l∈a.labels
  ·obtain⟨i,hi1,hi2,hi3,hi4⟩:=cH lda hma
   have c1:(i:Int)≥0:=by omega
   have c2:(i:Int)<a.dims.length:=by omega
   rw[if_pos (aQ.2 hma)]at hg hmn;by_cases hmb:l∈b.labels
   ·obtain⟨j,hj1,hj2,hj3,hj4⟩:=cH ldb hmb
    have c3:(j:Int)≥0:=by omega
    have c4:(j:Int)<b.dims.length:=by omega
    have e:=xy h hma hmb;have he:(ao a l !=ao b l)=false:=by simp [e]
    simp(disch:=omega) only[go_sem,seval,reduceCtorEq,hi3,hj3,c1,c2,c3,c4,hi4,hj4,he,h1];refine⟨by rw[hlen];omega, ?_⟩;(refine Next.mk hlt (Wk.kept' [2,3,7,8,21,22,23] 4 (nb rfl) ?_ ?_)<;>first|rfl|(simp only[go_sem,seval,reduceCtorEq,bH,aL,aK,bu,bJ,cut,List.contains_cons,List.contains_nil,Nat.reduceBEq,Int.natCast_zero,Int.natCast_add,Int.natCast_one,hmn];done)|skip)
   ·have hj3:=gz hmb
    simp(disch:=omega) only[go_sem,seval,reduceCtorEq,hi3,hj3,c1,c2,hi4,h1];refine⟨by rw[hlen];omega, ?_⟩;(refine Next.mk hlt (Wk.kept' [2,3,7,8,21,22,23] 4 (nb rfl) ?_ ?_)<;>first|rfl|(simp only[go_sem,seval,reduceCtorEq,bH,aL,aK,bu,bJ,cut,List.contains_cons,List.contains_nil,Nat.reduceBEq,Int.natCast_zero,Int.natCast_add,Int.natCast_one,hmn];done)|skip)
  ·have hi3:=gz hma
   have hmb:=hm.resolve_left hma;obtain⟨j,hj1,hj2,hj3,hj4⟩:=cH ldb hmb;have c3:(j:Int)≥0:=by omega
   have c4:(j:Int)<b.dims.length:=by omega
   rw[if_neg (fun e=>hma (aQ.1 e))]at hg hmn;simp(disch:=omega) only[go_sem,seval,reduceCtorEq,hi3,hj3,c3,c4,hj4,h1];refine⟨by rw[hlen];omega, ?_⟩;(refine Next.mk hlt (Wk.kept' [2,3,7,8,21,22,23] 4 (nb rfl) ?_ ?_)<;>first|rfl|(simp only[go_sem,seval,reduceCtorEq,bH,aL,aK,bu,bJ,cut,List.contains_cons,List.contains_nil,Nat.reduceBEq,Int.natCast_zero,Int.natCast_add,Int.natCast_one,hmn];done)|skip)
 ·have h1:¬(k:Int)<(aF a.labels b.labels).length:=by omega
  simp(disch:=omega) only[go_sem,seval,reduceCtorEq,h1];(refine zE ?_ ?_<;>try simp only[go_sem,seval,reduceCtorEq]);rw[ji (by simp;omega) (by omega)]
theorem Cp{a b:Ten}(ha:axOk a.labels a.dims)(hb:axOk b.labels b.dims)(h:gZ a b=false):
  Does Tryz.prog 148 [tenA a,tenA b] [] (.tup [.nil,.nil,.d (.bool false)]) []:=by
 have la:=ha.1;have lb:=hb.1;have lj:=qd a.labels b.labels;have ld:=uE a b;have lda:=ha.len;have ldb:=hb.len;refine zS Tryz.func148 nu ?_;unfold i6;refine zT ?_;(refine zC (n3 (a:=a.labels) (b:=b.labels) (by omega) (by omega)) ?_);refine zV ?_;refine⟨by omega, ?_⟩
 refine lM ((aF a.labels b.labels).length) (fun k=>∀l∈(aF a.labels b.labels).take k,l∈a.labels→l∈b.labels→ao a l=ao b l) (fun k=>(ch (.any) (.any) (.ptr 0 0) (.ptr 1 0) (.any) (.any) (.any) (.own 2 0 (aF a.labels b.labels).length) (.own 3 0 (aF a.labels b.labels).length) (.any) (.any) (.any) (.any) (.any) (.any) (.any) (ch (.any) (.any) (.any) (.any) (.any) (.own 2 0 (aF a.labels b.labels).length) (.d (.int (aF a.labels b.labels).length)) (.d (.int k)) (.any) (.any) (.any) (.any) (.any) (.any) (.any) (.any) (ch (.any) (.any) (.any) (.any) (.any) (.any) (.any) (.any) (.any) (.any) (.any) (.any) (.any) (.any) (.any) (.any) (ch (.any) (.any) (.any) (.any) (.any) (.any) (.any) (.any) (.any) (.any) (.any) (.any) (.any) (.any) (.any) (.any) [.any,.any,.any,.any,.any,.any,.any,.any,.any,.any]))))) (fun k=>[some ⟨0,false,[.d (ints a.labels),.d (ints a.dims),.d (ints a.data)]⟩,some ⟨0,false,[.d (ints b.labels),.d (ints b.dims),.d (ints b.data)]⟩,some ⟨1,true,iv (aF a.labels b.labels)⟩,some ⟨1,true,iv (mix (aB a b) (List.replicate (aF a.labels b.labels).length 0) k)⟩]) (by simp) (Wk.kept' [2,3,7,8,21,22,23] 4 (nb rfl) (by first|rfl|simp only[go_sem,seval,reduceCtorEq,bH,aL,aK,bu,bJ,cut,List.contains_cons,List.contains_nil,Nat.reduceBEq,Int.natCast_zero,Int.natCast_add,Int.natCast_one,cA]) (by first|rfl|simp only[go_sem,seval,reduceCtorEq,bH,aL,aK,bu,bJ,cut,List.contains_cons,List.contains_nil,Nat.reduceBEq,Int.natCast_zero,Int.natCast_add,Int.natCast_one,cA])) fun k hk hi=> ?_
 unfold gb;by_cases hlt:k<(aF a.labels b.labels).length
 ·have h1:(k:Int)<(aF a.labels b.labels).length:=by omega
  have hx:(aF a.labels b.labels)[k]? =some (aF a.labels b.labels)[k]:=zg hlt;have hm:=bm.1 (List.getElem_mem hlt);have hg:=zy (a:=a) (b:=b) hlt;have hi':∀(P:Prop),(P→P)→((aF a.labels b.labels)[k]∈a.labels→(aF a.labels b.labels)[k]∈b.labels→ao a (aF a.labels b.labels)[k]=ao b (aF a.labels b.labels)[k])→∀l∈(aF a.labels b.labels).take (k+1),l∈a.labels→l∈b.labels→ao a l=ao b l:=by
   intro _ _ hh l hl;rw[ba hlt,List.mem_append]at hl;rcases hl with hl|hl
   ·exact hi l hl
   ·simp only[List.mem_singleton]at hl
    rw[hl];exact hh
  replace hi':=hi' True id
  generalize hl:(aF a.labels b.labels)[k]=l at*;simp(disch:=omega) only[go_sem,seval,reduceCtorEq,h1,hx];(refine zD (gK (t:=a) (x:=l) (by omega)) ?_);refine zU ?_;(refine zC (gK (t:=b) (x:=l) (by omega)) ?_);have hlen:(mix (aB a b) (List.replicate (aF a.labels b.labels).length 0) k).length=(aF a.labels b.labels).length:=by rw[kD (by simp [ld]),ld]
  have hmn:=gE (l:=aB a b) (r:=List.replicate (aF a.labels b.labels).length 0) (k:=k) (by simp [ld]) hg;by_cases hma:l∈a.labels
  ·obtain⟨i,hi1,hi2,hi3,hi4⟩:=cH lda hma
   have c1:(i:Int)≥0:=by omega
   have c2:(i:Int)<a.dims.length:=by omega
   rw[if_pos (aQ.2 hma)]at hg hmn;by_cases hmb:l∈b.labels
   ·obtain⟨j,hj1,hj2,hj3,hj4⟩:=cH ldb hmb
    have c3:(j:Int)≥0:=by omega
    have c4:(j:Int)<b.dims.length:=by omega
    by_cases e:ao a l=ao b l
    ·have he:(ao a l !=ao b l)=false:=by simp [e]
     simp(disch:=omega) only[go_sem,seval,reduceCtorEq,hi3,hj3,c1,c2,c3,c4,hi4,hj4,he,h1];refine⟨by rw[hlen];omega, ?_⟩;(refine NextI.mk hlt (hi' (fun _ _=>e)) (Wk.kept' [2,3,7,8,21,22,23] 4 (nb rfl) ?_ ?_)<;>first|rfl|(simp only[go_sem,seval,reduceCtorEq,bH,aL,aK,bu,bJ,cut,List.contains_cons,List.contains_nil,Nat.reduceBEq,Int.natCast_zero,Int.natCast_add,Int.natCast_one,hmn];done)|skip)
    ·have he:(ao a l !=ao b l)=true:=by simp [e]
     simp(disch:=omega) only[go_sem,seval,reduceCtorEq,hi3,hj3,c1,c2,c3,c4,hi4,hj4,he,h1];exact zX
   ·have hj3:=gz hmb
    simp(disch:=omega) only[go_sem,seval,reduceCtorEq,hi3,hj3,c1,c2,hi4,h1];refine⟨by rw[hlen];omega, ?_⟩;(refine NextI.mk hlt (hi' (fun _ h=>absurd h hmb)) (Wk.kept' [2,3,7,8,21,22,23] 4 (nb rfl) ?_ ?_)<;>first|rfl|(simp only[go_sem,seval,reduceCtorEq,bH,aL,aK,bu,bJ,cut,List.contains_cons,List.contains_nil,Nat.reduceBEq,Int.natCast_zero,Int.natCast_add,Int.natCast_one,hmn];done)|skip)
  ·have hi3:=gz hma
   have hmb:=hm.resolve_left hma;obtain⟨j,hj1,hj2,hj3,hj4⟩:=cH ldb hmb;have c3:(j:Int)≥0:=by omega
   have c4:(j:Int)<b.dims.length:=by omega
   rw[if_neg (fun e=>hma (aQ.1 e))]at hg hmn;simp(disch:=omega) only[go_sem,seval,reduceCtorEq,hi3,hj3,c3,c4,hj4,h1];refine⟨by rw[hlen];omega, ?_⟩;(refine NextI.mk hlt (hi' (fun h=>absurd h hma)) (Wk.kept' [2,3,7,8,21,22,23] 4 (nb rfl) ?_ ?_)<;>first|rfl|(simp only[go_sem,seval,reduceCtorEq,bH,aL,aK,bu,bJ,cut,List.contains_cons,List.contains_nil,Nat.reduceBEq,Int.natCast_zero,Int.natCast_add,Int.natCast_one,hmn];done)|skip)
 ·rw[zt (by omega)]at hi
  rw[Dw fun l hl hl'=>hi l (bm.2 (.inl hl)) hl hl']at h;cases h
set_option maxRecDepth 100000
theorem n9{t:Ten}(h:TSz 1048576 t):Does Tryz.prog 68 [tenA t] [] (ownT 0 t) (stoT t):=by
 refine zS Tryz.func68 sP ?_;unfold ln;refine zT ?_;(refine zD (cj (xs:=t.labels) h.l.up.len) ?_);refine zU ?_;(refine zD (cj (xs:=t.dims) h.d.up.len) ?_);refine zU ?_;(refine zC (cj (xs:=t.data) h.x.up.len) ?_);refine zU ?_;exact zX
theorem br:iv []=[]:=rfl
attribute [go_sem] br
set_option maxRecDepth 100000
def putE(xs:List Int)(off:Nat)(ys:List Int):List Int:=xs.take off++ys++xs.drop (off+ys.length)
theorem bQ{xs ys:List Int}{off:Nat}(h:off+ys.length≤xs.length):(putE xs off ys).length=xs.length:=by simp [putE];omega
theorem lR{xs ys:List Int}{off i:Nat}(h:off+ys.length≤xs.length):(putE xs off ys)[i]? =if off≤i∧i<off+ys.length then ys[i-off]? else xs[i]? :=by
 unfold putE;by_cases h1:i<off
 ·rw[if_neg (by omega),List.append_assoc,List.getElem?_append_left (by simp;omega),List.getElem?_take,if_pos h1]
 ·by_cases h2:i<off+ys.length
  ·rw[if_pos (by omega),List.getElem?_append_left (by simp;omega),List.getElem?_append_right (by simp;omega)]
   congr 1
   simp;omega
  ·rw[if_neg (by omega),List.getElem?_append_right (by simp;omega),List.getElem?_drop]
   congr 1
   simp;omega
theorem Fi{xs ys:List Int}{off k:Nat}(h:off+ys.length≤xs.length)(hk:k<ys.length):
  (putE xs off (ys.take k)).take (off+k)++[ys[k]]++(putE xs off (ys.take k)).drop (off+k+1)=putE xs off (ys.take (k+1)):=by
 have hl:(ys.take k).length=k:=by simp;omega
 rw[cW (by rw[bQ (by omega)];omega)];refine List.ext_getElem? fun i=> ?_
 rw[List.getElem?_set,lR (by omega),lR (by simp;omega),bQ (by omega)];have hl2:(ys.take (k+1)).length=k+1:=by simp;omega
 rw[hl,hl2];by_cases h1:off+k=i
 ·subst h1
  rw[if_pos rfl,if_pos (by omega),if_pos (by omega),List.getElem?_take,if_pos (by omega),show off+k-off=k by omega,zg hk]
 ·rw[if_neg h1]
  by_cases h2:off≤i∧i<off+k
  ·rw[if_pos h2,if_pos (by omega),List.getElem?_take,List.getElem?_take,if_pos (by omega),if_pos (by omega)]
  ·rw[if_neg h2,if_neg (by omega)]
theorem yR(xs:List Int)(off:Nat):putE xs off []=xs:=by simp [putE]
theorem I5{x wd:Nat}{kk pp nn:Int}{t:Ten}{ys:List Int}(hw:af ⟨kk,pp,nn⟩=(wd:Int))(hy:ys.length=wd)(h1:1≤wd∧wd≤6)(hx:x*wd+wd≤t.data.length)(hx2:x≤1099511627776)(h:t.data.length≤1099511627776):
  Does Tryz.prog 84 [aY kk pp nn,ownT 0 t,.d (.int x),.d (ints ys)] (stoF t) (.tup []) (stoF ⟨t.labels,t.dims,putE t.data (x*wd) ys⟩):=by
 refine zS Tryz.func84 ye ?_;unfold qO;refine zT ?_;(refine zC (fW kk pp nn) ?_);simp only[go_sem,seval,reduceCtorEq,hw]
 refine jc (ys.length) (fun k=>(ch (.any) (.any) (.d (.int x)) (.d (ints ys)) (.any) (.ptr 4 0) (.any) (.any) (.d (.int wd)) (.any) (.any) (.any) (.any) (.d (.int ys.length)) (.d (.int k)) (.any) [.any,.any,.any,.any,.any,.any,.any,.any,.any,.any,.any,.any,.any,.any])) (fun k=>[some ⟨1,false,iv t.labels⟩,some ⟨1,false,iv t.dims⟩,some ⟨1,false,iv (putE t.data (x*wd) (ys.take k))⟩,some ⟨0,false,[.d (.int kk),.d (.int pp),.d (.int nn)]⟩,some ⟨0,false,[.own 0 0 t.labels.length,.own 1 0 t.dims.length,.own 2 0 t.data.length]⟩]) (Wk.kept' [2,3,5,8,13,14] 5 (nb rfl) (by first|rfl|simp only[go_sem,seval,reduceCtorEq,bH,aL,aK,bu,bJ,cut,List.contains_cons,List.contains_nil,Nat.reduceBEq,Int.natCast_zero,Int.natCast_add,Int.natCast_one,List.take_zero,yR]) (by first|rfl|simp only[go_sem,seval,reduceCtorEq,bH,aL,aK,bu,bJ,cut,List.contains_cons,List.contains_nil,Nat.reduceBEq,Int.natCast_zero,Int.natCast_add,Int.natCast_one,List.take_zero,yR])) fun k hk=> ?_
 unfold pk;by_cases hlt:k<ys.length
 ·have h1:(k:Int)<ys.length:=by omega
  have hx:ys[k]? =some ys[k]:=zg hlt;have e1:(x:Int)*wd=(x*wd:Nat):=by push_cast;rfl
  have e2:((x*wd:Nat):Int)+k=(x*wd+k:Nat):=by push_cast;rfl
  have hlk:(ys.take k).length=k:=by simp;omega
  have hpl:(putE t.data (x*wd) (ys.take k)).length=t.data.length:=bQ (by omega);have hn:=Fi (xs:=t.data) (ys:=ys) (off:=x*wd) (k:=k) (by omega) hlt;simp(disch:=omega) only[go_sem,seval,reduceCtorEq,h1,hx,e1,e2];refine⟨by omega,by rw[hpl];omega, ?_⟩;(refine Next.mk hlt (Wk.kept' [2,3,5,8,13,14] 5 (nb rfl) ?_ ?_)<;>first|rfl|(simp only[go_sem,seval,reduceCtorEq,bH,aL,aK,bu,bJ,cut,List.contains_cons,List.contains_nil,Nat.reduceBEq,Int.natCast_zero,Int.natCast_add,Int.natCast_one,hn];done)|skip)
 ·have h1:¬(k:Int)<ys.length:=by omega
  simp(disch:=omega) only[go_sem,seval,reduceCtorEq,h1];(refine zE ?_ ?_<;>try simp only[go_sem,seval,reduceCtorEq])
  all_goals rw[zt (by omega)]
set_option maxRecDepth 100000
def lO(ls L:List Int):Bool:=decide (L.length=ls.length∧∀k (hk:k<L.length),L[k]∈ls∧L[k]∉L.take k)
theorem BE{ls L:List Int}(k:Nat)(hk:k<L.length)(h:¬(L[k]∈ls∧L[k]∉L.take k)):lO ls L=false:=decide_eq_false fun e=>h (e.2 k hk)
theorem sf{ls L:List Int}(h1:ls.length≤1099511627776)(h2:L.length≤1099511627776):Does Tryz.prog 129 [.d (ints ls),.d (ints L)] [] (.d (.bool (lO ls L))) []:=by
 refine zS Tryz.func129 sK ?_;unfold lh;refine zT ?_;by_cases hl:L.length=ls.length
 rotate_left
 ·have c:((L.length:Int) !=ls.length)=true:=by simp;omega
  have e:lO ls L=false:=decide_eq_false fun x=>hl x.1
  simp(disch:=omega) only[go_sem,seval,reduceCtorEq,c,e];exact zX
 have c:((L.length:Int) !=ls.length)=false:=by simp [hl]
 simp(disch:=omega) only[go_sem,seval,reduceCtorEq,c];refine cI (L.length) (mkB 31 2147450992) (fun k=>∀j (hj:j<L.length),j<k→L[j]∈ls∧L[j]∉L.take j) (fun k=>[(14,.d (.int k))]) (fun k=>[]) (hi:=fun j _ hj=>absurd hj (Nat.not_lt_zero j)) (hr:=fun k hk hi=> ?_);unfold jQ;by_cases hlt:k<L.length
 ·have c1:(k:Int)<L.length:=by omega
  have g:L[k]? =some L[k]:=zg hlt;have hlk:(L.take k).length=k:=by simp;omega
  have c2:(k:Int)≤L.length:=by omega
  simp(disch:=omega) only[go_sem,seval,reduceCtorEq,c1,c2,g];simp only[true_or,Int.sub_zero,Int.toNat_natCast,go_sem,seval,reduceCtorEq];(refine zC (dO (xs:=L.take k) (x:=L[k]) (by omega)) ?_ (by simp only[go_sem,seval,reduceCtorEq,hlk]));cases hh:has (L.take k) L[k]
  ·simp only[go_sem,seval,reduceCtorEq,hh]
   (refine zC (dO (xs:=ls) (x:=L[k]) (by omega)) ?_);cases hm:has ls L[k]
   ·have e:=BE (ls:=ls) k hlt (fun x=>by rw[aQ.2 x.1]at hm;cases hm)
    simp only[go_sem,seval,reduceCtorEq,hm,e];exact zX
   ·simp(disch:=omega) only[go_sem,seval,reduceCtorEq,hm]
    have hI:∀j (hj:j<L.length),j<k+1→L[j]∈ls∧L[j]∉L.take j:=fun j hj hjk=>by
     by_cases e:j=k
     ·subst e;exact⟨aQ.1 hm,aI.1 hh⟩
     ·exact hi j hj (by omega)
    exact NextI.drop (mkB 31 2147450992) (by omega) (hI)
  ·have e:=BE (ls:=ls) k hlt (fun x=>by rw[aI.2 x.2]at hh;cases hh)
   simp only[go_sem,seval,reduceCtorEq,hh,e];exact zX
 ·have c1:¬(k:Int)<L.length:=by omega
  have e:lO ls L=true:=decide_eq_true ⟨hl,fun j hj=>hi j hj (by omega)⟩;simp(disch:=omega) only[go_sem,seval,reduceCtorEq,c1,e];exact zX
theorem su:∀{L ls:List Int},L.Nodup→(∀x∈L,x∈ls)→L.length≤ls.length
 | [],ls,_,_=>Nat.zero_le _
 |l :: L,ls,hn,hs=>by
  simp only[List.nodup_cons]at hn;have hl:l∈ls:=hs l (by simp);have h1:=su (L:=L) (ls:=ls.erase l) hn.2 (fun y hy=>(List.mem_erase_of_ne (fun (e:y=l)=>hn.1 (e ▸ hy))).2 (hs y (by simp [hy])));have h2:=List.length_erase_of_mem hl;have h3:=List.length_pos_of_mem hl;simp only[Zl];omega
def wol(ls L:List Int):List Int:=ls.filter fun x=> !has L x
theorem Ak(ls L:List Int):(wol ls L).length≤ls.length:=List.length_filter_le _ _
theorem Aj{ls L:List Int}{y:Int}:y∈wol ls L↔y∈ls∧y∉L:=by simp [wol,has]
def zQ(ls L:List Int):Bool:=decide (∀k (hk:k<L.length),L[k]∈ls∧L[k]∉L.take k)
theorem IL{ls L:List Int}(k:Nat)(hk:k<L.length)(h:¬(L[k]∈ls∧L[k]∉L.take k)):zQ ls L=false:=decide_eq_false fun e=>h (e k hk)
theorem CP{ls L:List Int}(h:zQ ls L=true):L.Nodup∧∀x∈L,x∈ls:=by
 have h:=zd h;refine⟨fp fun k hk=>(h k hk).2,fun x hx=> ?_⟩;obtain⟨k,hk,rfl⟩:=List.getElem_of_mem hx
 exact(h k hk).1
theorem eK{r:Rg}{xs:List Int}(h:∀x∈xs,0≤x∧x≤top r):fits r xs:=fun k hk=>h _ (dN xs k hk)
theorem fA{r:Rg}{xs:List Int}(h:fits r xs):∀x∈xs,0≤x∧x≤top r:=fun x hx=>by
 obtain⟨k,hk,rfl⟩:=List.getElem_of_mem hx;have:=h k hk
 rwa [ac hk]at this
theorem Bs{r:Rg}{ls ds xs:List Int}(h1:ai r=true)(h2:(xs.length:Int)=aa ds*af r)(h3:fits r xs):al r ls ds xs=decide (aT ls ds≠ -1):=by
 rw[al,h1,show jm r xs=true from decide_eq_true h3,Bool.true_and,Bool.and_true];rcases dd ls ds with h|⟨_,_,h,_⟩
 ·simp [h]
 ·rw[h]
  by_cases e:aa ds= -1<;>simp [e,h2]
theorem qB:∀{l M:List Int},l.Nodup→(∀x∈l,x∈M)→l.length≤M.length
 | [],_,_,_=>Nat.zero_le _
 |x :: l,M,h,hs=>by
  rw[List.nodup_cons]at h;have hx:=hs x (List.mem_cons_self ..);have h1:=qB (l:=l) (M:=M.erase x) h.2 fun y hy=>(List.mem_erase_of_ne (fun e=>h.1 (by rwa [← e]))).2 (hs y (List.mem_cons_of_mem _ hy))
  have h2:=List.length_erase_of_mem hx;have h3:=List.length_pos_of_mem hx;simp only[Zl];omega
theorem ud{l:List Int}(h:l.Nodup)(hb:∀x∈l,0≤x∧x≤99):l.length≤100:=by
 have h1:=qB (M:=(List.range 100).map fun (i:Nat)=>(i:Int)) h fun x hx=>by
  have:=hb x hx;exact List.mem_map.2 ⟨x.toNat,by simp;omega,by omega⟩
 simpa using h1
theorem Cn{a b:List Int}(ha:a.Nodup)(hb:b.Nodup):(aF a b).Nodup:=by
 unfold aF;refine List.nodup_append.2 ⟨ha,hb.filter _,fun x hx y hy e=> ?_⟩;subst e;simp only[List.mem_filter,Bool.not_eq_true',aI]at hy;exact hy.2 hx
section
variable {L : List (List Int)} {x : Int} {k : Nat}
end
set_option maxRecDepth 100000
theorem w4{xs ys:List Int}{off k:Nat}(h:off+ys.length≤xs.length)(hk:k<ys.length):(putE xs off ys)[off+k]? =some (ys.getD k 0):=by
 rw[lR h,if_pos (by omega),show off+k-off=k by omega,zg hk,ac hk]
theorem wL{xs ys:List Int}{off k:Nat}{v:Int}(h:off+ys.length≤xs.length)(hk:k<ys.length):
  (putE xs off ys).take (off+k)++[v]++(putE xs off ys).drop (off+k+1)=putE xs off (ys.set k v):=by
 rw[cW (by rw[bQ h];omega)];refine List.ext_getElem? fun i=> ?_
 rw[List.getElem?_set,lR h,lR (by simpa using h),bQ h];by_cases h1:off+k=i
 ·subst h1
  rw[if_pos rfl,if_pos (by omega),if_pos (by simp;omega),show off+k-off=k by omega,List.getElem?_set,if_pos rfl,if_pos hk]
 ·rw[if_neg h1]
  by_cases h2:off≤i∧i<off+ys.length
  ·rw[if_pos h2,if_pos (by simpa using h2),List.getElem?_set,if_neg (by omega)]
  ·rw[if_neg h2,if_neg (by simpa using h2)]
theorem Hf{xs:List Int}{off n:Nat}(h:off+n≤xs.length):xs.take off++List.replicate n 0++xs.drop (off+n)=putE xs off (List.replicate n 0):=by
 simp [putE]
theorem kC{kk pp nn:Int}{xs x y:List Int}{off wd:Nat}(hr:ai ⟨kk,pp,nn⟩=true)(hk:kk=7∨kk=8)(hw:af ⟨kk,pp,nn⟩=wd)(hx:fits ⟨kk,pp,nn⟩ x)(hy:fits ⟨kk,pp,nn⟩ y)(lx:x.length=wd)(ly:y.length=wd)(ho:off+wd≤xs.length)(hl:xs.length≤1099511627776):
  Does Tryz.prog 168 [aY kk pp nn,.own 0 off wd,.d (ints x),.d (ints y)] [some ⟨1,false,iv xs⟩] (.tup []) [some ⟨1,false,iv (putE xs off (de ⟨kk,pp,nn⟩ x y (List.replicate wd 0) wd))⟩]:=by
 have hwb:=cm hr;have hk':kk=2∨kk=7∨kk=8:=by omega
 obtain⟨hlx,hp1,hp2⟩:=bG (r:=⟨kk,pp,nn⟩) hr hx hk';obtain⟨hly,_⟩:=bG (r:=⟨kk,pp,nn⟩) hr hy hk';simp only at hp1 hp2;have hz:=oE (p:=pp) (by omega) wd;have hT:=m4 (r:=⟨kk,pp,nn⟩) ⟨hp1,hp2⟩ hz hlx hly;have hrl:(List.replicate wd (0:Int)).length=wd:=by simp
 have hrep:=Hf ho;refine zS Tryz.func168 mZ ?_;unfold fI;refine zT ?_;simp(disch:=omega) only[go_sem,seval,reduceCtorEq,hrep,ho];refine aA (wd) (mkB 76 75557863725914323357440) (fun k=>[(15,.d (.int k))]) (fun k=>[(0,iv (putE xs off (de ⟨kk,pp,nn⟩ x y (List.replicate wd 0) k)))]) (h1:=by first|(simp only[go_sem,seval,reduceCtorEq,nz,na,n1,lx,de];first|done|rfl)|rfl) (h2:=by first|(simp only[go_sem,seval,reduceCtorEq,nz,na,n1,lx,de];first|done|rfl)|rfl) (hr:=fun k hk=> ?_);unfold fc;obtain⟨hT1,hT2,hT3⟩:=hT k;rw[hrl]at hT3;by_cases hlt:k<wd
 ·have h1:(k:Int)<x.length:=by omega
  have hx1:x[k]? =some (x.getD k 0):=by rw[ac (by omega)];exact zg (by omega)
  simp(disch:=omega) only[go_sem,seval,reduceCtorEq,h1];have hR:=gD (r:=⟨kk,pp,nn⟩) (i:=k) ⟨hp1,hp2⟩ hT2 (hlx.at (by omega) k) hly;refine aA (wd) (mkB 76 37778931862957159616000) (fun j=>[(20,.d (.int j))]) (fun j=>[(0,iv (putE xs off (bR ⟨kk,pp,nn⟩ y k (x.getD k 0) (de ⟨kk,pp,nn⟩ x y (List.replicate wd 0) k) j)))]) (h1:=by first|(simp only[go_sem,seval,reduceCtorEq,nz,na,n1,ly,bR];first|done|rfl)|rfl) (h2:=by first|(simp only[go_sem,seval,reduceCtorEq,nz,na,n1,ly,bR];first|done|rfl)|rfl) (hr:=fun j hj=> ?_);unfold ff;obtain⟨hR1,hR2,hR3⟩:=hR j;rw[hT3]at hR3;have hRn:=(hR (j+1)).1
  rw[m7,hR1,AS,hR3]at hRn;by_cases hltj:j<wd
  ·have h2:(j:Int)<y.length:=by omega
   have hy1:y[j]? =some (y.getD j 0):=by rw[ac (by omega)];exact zg (by omega)
   have ha:=hlx.at (show 0<pp by omega) k;have hb:=hly.at (show 0<pp by omega) j;simp only at ha hb;have hab:=AB ha hb hp2;have hm:=tmb hab.1 (show 0<pp by omega);have hp0:pp≠0:=by omega
   generalize bR ⟨kk,pp,nn⟩ y k (x.getD k 0) (de ⟨kk,pp,nn⟩ x y (List.replicate wd 0) k) j=cur at*;generalize hae:x.getD k 0=a at*;generalize hbe:y.getD j 0=b at*;have hc:=hR2.at (show 0<pp by omega) (k+j);have hc4:=hR2.at (show 0<pp by omega) (k+j-4);simp only at hc hc4 hRn;have e1:(k:Int)+j=(k+j:Nat):=by push_cast;rfl
   by_cases h3:k+j<wd
   ·have h3':((k+j:Nat):Int)<wd:=by omega
    rw[if_pos h3]at hRn;have hg:=w4 (xs:=xs) (ys:=cur) (off:=off) (k:=k+j) (by omega) (by omega);have hq:=fun v=>wL (xs:=xs) (ys:=cur) (off:=off) (k:=k+j) (v:=v) (by omega) (by omega)
    have hb2:=tmb (show 0≤cur.getD (k+j) 0+(a*b).tmod pp by omega) (show 0<pp by omega);simp(disch:=omega) only[go_sem,seval,reduceCtorEq,h2,hx1,hy1,hp0,e1,h3',hg,ne_eq,not_false_eq_true];refine⟨by omega,by rw[bQ (by omega)];omega, ?_⟩;(refine Next.drop (mkB 76 37778931862957159616000) (by omega) (h1:= ?_) (h2:= ?_)<;>first|(simp only[go_sem,seval,reduceCtorEq,nz,na,n1,hq, ← hRn];first|done|rfl)|rfl|skip)
   ·rw[if_neg h3]at hRn
    have h3':¬((k+j:Nat):Int)<wd:=by omega
    rcases hk' with rfl|rfl|rfl
    ·omega
    ·rw[if_neg (by decide)]at hRn
     simp(disch:=omega) only[go_sem,seval,reduceCtorEq,h2,hx1,hy1,hp0,e1,h3',ne_eq,not_false_eq_true];refine⟨by omega, ?_⟩;(refine Next.drop (mkB 76 37778931862957159616000) (by omega) (h1:= ?_) (h2:= ?_)<;>first|(simp only[go_sem,seval,reduceCtorEq,nz,na,n1, ← hRn];first|done|rfl)|rfl|skip)
    ·rw[if_pos rfl]at hRn
     have hw4:wd=4:=by simp [af]at hw;omega
     have e4:((k+j:Nat):Int)-4=(k+j-4:Nat):=by omega
     have h5:((k+j-4:Nat):Int)<wd:=by omega
     have hg:=w4 (xs:=xs) (ys:=cur) (off:=off) (k:=k+j-4) (by omega) (by omega);have hq:=fun v=>wL (xs:=xs) (ys:=cur) (off:=off) (k:=k+j-4) (v:=v) (by omega) (by omega)
     simp(disch:=omega) only[go_sem,seval,reduceCtorEq,h2,hx1,hy1,hp0,e1,e4,h3',h5,hg,ne_eq,not_false_eq_true];refine⟨by omega,by rw[bQ (by omega)];omega, ?_⟩;(refine Next.drop (mkB 76 37778931862957159616000) (by omega) (h1:= ?_) (h2:= ?_)<;>first|(simp only[go_sem,seval,reduceCtorEq,nz,na,n1,hq, ← hRn];first|done|rfl)|rfl|skip)
  ·have h2:¬(j:Int)<y.length:=by omega
   have hjw:j=y.length:=by omega
   simp(disch:=omega) only[go_sem,seval,reduceCtorEq,h2];(refine Next.drop (mkB 76 75557863725914323357440) (by omega) (h1:= ?_) (h2:= ?_)<;>first|(simp only[go_sem,seval,reduceCtorEq,nz,na,n1,de,hjw];first|done|rfl)|rfl|skip)
 ·have h1:¬(k:Int)<x.length:=by omega
  have hkw:k=wd:=by omega
  subst hkw;simp(disch:=omega) only[go_sem,seval,reduceCtorEq,h1];exact zX
theorem Fu{kk pp nn:Int}{xs x y:List Int}{off wd:Nat}(hr:ai ⟨kk,pp,nn⟩=true)(hw:af ⟨kk,pp,nn⟩=wd)(hx:fits ⟨kk,pp,nn⟩ x)(hy:fits ⟨kk,pp,nn⟩ y)(lx:x.length=wd)(ly:y.length=wd)(ho:off+wd≤xs.length)(hl:xs.length≤1099511627776):
  Does Tryz.prog 151 [aY kk pp nn,.own 0 off wd,.d (ints x),.d (ints y)] [some ⟨1,false,iv xs⟩] (.tup []) [some ⟨1,false,iv (putE xs off (mulE ⟨kk,pp,nn⟩ x y))⟩]:=by
 have hwb:=cm hr;have htb:=dA hr;have x0:=hx 0 (by omega);have y0:=hy 0 (by omega);have hmm:0≤x.getD 0 0*y.getD 0 0:=Int.mul_nonneg x0.1 y0.1;have hmb:x.getD 0 0*y.getD 0 0≤x.getD 0 0*1048576:=Int.mul_le_mul_of_nonneg_left (by omega) x0.1;have gx:x[0]? =some (x.getD 0 0):=by rw[ac (by omega)];exact zg (by omega)
 have gy:y[0]? =some (y.getD 0 0):=by rw[ac (by omega)];exact zg (by omega)
 have hput:∀v:Int,xs.take off++[v]++xs.drop (off+1)=putE xs off [v]:=fun v=>rfl
 have c1:(0:Int)<wd:=by omega
 have c2:(0:Int)<x.length:=by omega
 have c3:(0:Int)<y.length:=by omega
 have c4:off+1≤xs.length:=by omega
 have hand:∀a b:Int,IntKind.i64.wrap (BitVec.ofInt 64 a&&& BitVec.ofInt 64 b).toNat=andI a b:=fun _ _=>rfl
 have hpoly:kk=7∨kk=8→mulE ⟨kk,pp,nn⟩ x y=de ⟨kk,pp,nn⟩ x y (List.replicate wd 0) wd:=fun h=>by
  unfold mulE;rw[if_neg (by simp only;omega),if_neg (by simp only;omega),if_neg (by simp only;omega),if_neg (by simp only;omega),if_neg (by simp only;omega),lx]
 have hlow:=fun h=>(bG (r:=⟨kk,pp,nn⟩) hr hx h).2
 simp only at hlow;generalize hae:x.getD 0 0=a at*;generalize hbe:y.getD 0 0=b at*;refine zS Tryz.func151 xq ?_;unfold pS;refine zT ?_;rcases aO hr with h|h|h|h|h|h|h|h<;>simp only at h<;>obtain⟨rfl,h⟩:=h
 ·have he:mulE ⟨1,pp,nn⟩ x y=[min a b]:=by simp only[mulE,hae,hbe];rfl
  simp(disch:=omega) only[go_sem,seval,reduceCtorEq,gx,gy,c1,c2,c3,c4];(refine zE ?_ ?_<;>try simp only[go_sem,seval,reduceCtorEq]);rw[hput,he]
 ·have he:mulE ⟨2,pp,nn⟩ x y=[(a*b).tmod pp]:=by simp only[mulE,hae,hbe];rfl
  have hp:=hlow (.inl rfl);have hp0:pp≠0:=by omega
  simp(disch:=omega) only[go_sem,seval,reduceCtorEq,gx,gy,c1,c2,c3,c4,hp0,ne_eq,not_false_eq_true];(refine zE ?_ ?_<;>try simp only[go_sem,seval,reduceCtorEq]);rw[hput,he]
 ·have he:mulE ⟨3,pp,nn⟩ x y=[min (a*b) pp]:=by simp only[mulE,hae,hbe];rfl
  simp(disch:=omega) only[go_sem,seval,reduceCtorEq,gx,gy,c1,c2,c3,c4];(refine zE ?_ ?_<;>try simp only[go_sem,seval,reduceCtorEq]);rw[hput,he]
 ·have he:mulE ⟨4,pp,nn⟩ x y=[min (a+b) pp]:=by simp only[mulE,hae,hbe];rfl
  simp(disch:=omega) only[go_sem,seval,reduceCtorEq,gx,gy,c1,c2,c3,c4];(refine zE ?_ ?_<;>try simp only[go_sem,seval,reduceCtorEq]);rw[hput,he]
 ·have he:mulE ⟨5,pp,nn⟩ x y=[min a b]:=by simp only[mulE,hae,hbe];rfl
  simp(disch:=omega) only[go_sem,seval,reduceCtorEq,gx,gy,c1,c2,c3,c4];(refine zE ?_ ?_<;>try simp only[go_sem,seval,reduceCtorEq]);rw[hput,he]
 ·have he:mulE ⟨6,pp,nn⟩ x y=[andI a b]:=by simp only[mulE,hae,hbe];rfl
  simp(disch:=omega) only[go_sem,seval,reduceCtorEq,gx,gy,c1,c2,c3,c4];(refine zE ?_ ?_<;>try simp only[go_sem,seval,reduceCtorEq]);rw[hput,hand,he]
 ·have hpl:∀ys:List Int,ys.length=wd→(putE xs off ys).length=xs.length:=fun ys h=>bQ (by omega)
  have hml:=(fV hr hw hx hy lx ly).1;rw[hpoly (.inl rfl)]at hml;refine zV ?_;(refine eu [0] false (kC hr (.inl rfl) hw hx hy lx ly ho hl) (zd rfl) ?_ ?_ ?_ ?_ (zd rfl) ?_;(focus (simp only[go_sem,seval,reduceCtorEq,hpl _ hml];done));(focus (simp only[go_sem,seval,reduceCtorEq];done));(focus (simp only[go_sem,seval,reduceCtorEq,hpl _ hml];done));(focus (simp only[go_sem,seval,reduceCtorEq];done)));refine zU ?_;(refine zE ?_ ?_<;>try simp only[go_sem,seval,reduceCtorEq]);rw[hpoly (.inl rfl)]
 ·have hpl:∀ys:List Int,ys.length=wd→(putE xs off ys).length=xs.length:=fun ys h=>bQ (by omega)
  have hml:=(fV hr hw hx hy lx ly).1;rw[hpoly (.inr rfl)]at hml;refine zV ?_;(refine eu [0] false (kC hr (.inr rfl) hw hx hy lx ly ho hl) (zd rfl) ?_ ?_ ?_ ?_ (zd rfl) ?_;(focus (simp only[go_sem,seval,reduceCtorEq,hpl _ hml];done));(focus (simp only[go_sem,seval,reduceCtorEq];done));(focus (simp only[go_sem,seval,reduceCtorEq,hpl _ hml];done));(focus (simp only[go_sem,seval,reduceCtorEq];done)));refine zU ?_;(refine zE ?_ ?_<;>try simp only[go_sem,seval,reduceCtorEq]);rw[hpoly (.inr rfl)]
set_option maxHeartbeats 1000000 in
theorem I6{kk pp nn:Int}{x y:List Int}{wd:Nat}(hr:ai ⟨kk,pp,nn⟩=true)(hw:af ⟨kk,pp,nn⟩=wd)(hx:fits ⟨kk,pp,nn⟩ x)(hy:fits ⟨kk,pp,nn⟩ y)(lx:x.length=wd)(ly:y.length=wd):
  Does Tryz.prog 117 [aY kk pp nn,.d (ints x),.d (ints y)] [] (.own 0 0 wd) [some ⟨1,true,iv (mulE ⟨kk,pp,nn⟩ x y)⟩]:=by
 have hwb:=cm hr;have htb:=dA hr;have x0:=hx 0 (by omega);have y0:=hy 0 (by omega);have hmm:0≤x.getD 0 0*y.getD 0 0:=Int.mul_nonneg x0.1 y0.1;have hmb:x.getD 0 0*y.getD 0 0≤x.getD 0 0*1048576:=Int.mul_le_mul_of_nonneg_left (by omega) x0.1;have gx:x[0]? =some (x.getD 0 0):=by rw[ac (by omega)];exact zg (by omega)
 have gy:y[0]? =some (y.getD 0 0):=by rw[ac (by omega)];exact zg (by omega)
 have c2:(0:Int)<x.length:=by omega
 have c3:(0:Int)<y.length:=by omega
 have hand:∀a b:Int,IntKind.i64.wrap (BitVec.ofInt 64 a&&& BitVec.ofInt 64 b).toNat=andI a b:=fun _ _=>rfl
 have hlow:=fun h=>(bG (r:=⟨kk,pp,nn⟩) hr hx h).2
 simp only at hlow;have h1wd:¬(kk=7∨kk=8)→wd=1:=fun h=>by have:=oV (r:=⟨kk,pp,nn⟩) hr h;omega
 refine zS Tryz.func117 yi ?_;unfold qS;refine zT ?_;refine⟨by omega, ?_⟩;by_cases h78:kk=7∨kk=8
 rotate_left
 ·have h1:=h1wd h78
  subst h1;generalize hae:x.getD 0 0=a at*;generalize hbe:y.getD 0 0=b at*;have hdr:List.drop 1 (List.replicate x.length (0:Int))=[]:=by rw[lx];rfl
  rcases aO hr with h|h|h|h|h|h|h|h<;>simp only at h<;>obtain⟨rfl,h⟩:=h
  ·have he:mulE ⟨1,pp,nn⟩ x y=[andI a b]:=by simp only[top,if_true]at x0 y0;rw[L5 x0 y0];simp only[mulE,hae,hbe];rfl
   simp(disch:=omega) only[go_sem,seval,reduceCtorEq,gx,gy,c2,c3,hdr];refine⟨by simp [lx], ?_⟩;(refine zE ?_ ?_<;>try simp only[go_sem,seval,reduceCtorEq])
   ·rw[lx]
   ·rw[he];rfl
  ·have he:mulE ⟨2,pp,nn⟩ x y=[(a*b).tmod pp]:=by simp only[mulE,hae,hbe];rfl
   have hp:=hlow (.inl rfl);have hp0:pp≠0:=by omega
   simp(disch:=omega) only[go_sem,seval,reduceCtorEq,gx,gy,c2,c3,hdr,hp0,ne_eq,not_false_eq_true];refine⟨by simp [lx], ?_⟩;(refine zE ?_ ?_<;>try simp only[go_sem,seval,reduceCtorEq])
   ·rw[lx]
   ·rw[he];rfl
  ·have he:mulE ⟨3,pp,nn⟩ x y=[min (a*b) pp]:=by simp only[mulE,hae,hbe];rfl
   simp(disch:=omega) only[go_sem,seval,reduceCtorEq,gx,gy,c2,c3,hdr];refine⟨by simp [lx], ?_⟩;(refine zE ?_ ?_<;>try simp only[go_sem,seval,reduceCtorEq])
   ·rw[lx]
   ·rw[he];rfl
  ·have he:mulE ⟨4,pp,nn⟩ x y=[min (a+b) pp]:=by simp only[mulE,hae,hbe];rfl
   simp(disch:=omega) only[go_sem,seval,reduceCtorEq,gx,gy,c2,c3,hdr];refine⟨by simp [lx], ?_⟩;(refine zE ?_ ?_<;>try simp only[go_sem,seval,reduceCtorEq])
   ·rw[lx]
   ·rw[he];rfl
  ·have he:mulE ⟨5,pp,nn⟩ x y=[min a b]:=by simp only[mulE,hae,hbe];rfl
   simp(disch:=omega) only[go_sem,seval,reduceCtorEq,gx,gy,c2,c3,hdr];refine⟨by simp [lx], ?_⟩;(refine zE ?_ ?_<;>try simp only[go_sem,seval,reduceCtorEq])
   ·rw[lx]
   ·rw[he];rfl
  ·have he:mulE ⟨6,pp,nn⟩ x y=[andI a b]:=by simp only[mulE,hae,hbe];rfl
   simp(disch:=omega) only[go_sem,seval,reduceCtorEq,gx,gy,c2,c3,hdr];refine⟨by simp [lx], ?_⟩;(refine zE ?_ ?_<;>try simp only[go_sem,seval,reduceCtorEq])
   ·rw[lx]
   ·rw[he];rfl
  ·exact absurd (.inl rfl) h78
  ·exact absurd (.inr rfl) h78
 ·have he:mulE ⟨kk,pp,nn⟩ x y=de ⟨kk,pp,nn⟩ x y (List.replicate wd 0) wd:=by
   unfold mulE;rw[if_neg (by simp only;omega),if_neg (by simp only;omega),if_neg (by simp only;omega),if_neg (by simp only;omega),if_neg (by simp only;omega),lx]
  have hk':kk=2∨kk=7∨kk=8:=by omega
  obtain⟨hlx,hp1,hp2⟩:=bG (r:=⟨kk,pp,nn⟩) hr hx hk';obtain⟨hly,_⟩:=bG (r:=⟨kk,pp,nn⟩) hr hy hk';simp only at hp1 hp2;have hz:=oE (p:=pp) (by omega) wd;have hT:=m4 (r:=⟨kk,pp,nn⟩) ⟨hp1,hp2⟩ hz hlx hly;have hrl:(List.replicate wd (0:Int)).length=wd:=by simp
  have k1:(kk==1)=false:=by simp;omega
  have k2:(kk==2)=false:=by simp;omega
  have k3:(kk==3)=false:=by simp;omega
  have k4:(kk==4)=false:=by simp;omega
  have k5:(kk==5)=false:=by simp;omega
  have k6:(kk==6)=false:=by simp;omega
  simp(disch:=omega) only[go_sem,seval,reduceCtorEq,k1,k2,k3,k4,k5,k6];refine aA (wd) (mkB 151 38685626227668133589552896) (fun k=>[(19,.d (.int k))]) (fun k=>[(1,iv (de ⟨kk,pp,nn⟩ x y (List.replicate wd 0) k))]) (h1:=by first|(simp only[go_sem,seval,reduceCtorEq,nz,na,n1,lx,de];first|done|rfl)|rfl) (h2:=by first|(simp only[go_sem,seval,reduceCtorEq,nz,na,n1,lx,de];first|done|rfl)|rfl) (hr:=fun k hk=> ?_);unfold pe;obtain⟨hT1,hT2,hT3⟩:=hT k;rw[hrl]at hT3;by_cases hlt:k<wd
  ·have h1:(k:Int)<x.length:=by omega
   have hx1:x[k]? =some (x.getD k 0):=by rw[ac (by omega)];exact zg (by omega)
   simp(disch:=omega) only[go_sem,seval,reduceCtorEq,h1,hx1];have hR:=gD (r:=⟨kk,pp,nn⟩) (i:=k) ⟨hp1,hp2⟩ hT2 (hlx.at (by omega) k) hly;refine aA (wd) (mkB 151 19342813113834066661084160) (fun j=>[(26,.d (.int j))]) (fun j=>[(1,iv (bR ⟨kk,pp,nn⟩ y k (x.getD k 0) (de ⟨kk,pp,nn⟩ x y (List.replicate wd 0) k) j))]) (h1:=by first|(simp only[go_sem,seval,reduceCtorEq,nz,na,n1,ly,bR];first|done|rfl)|rfl) (h2:=by first|(simp only[go_sem,seval,reduceCtorEq,nz,na,n1,ly,bR];first|done|rfl)|rfl) (hr:=fun j hj=> ?_);unfold pm;obtain⟨hR1,hR2,hR3⟩:=hR j;rw[hT3]at hR3;by_cases hltj:j<wd
   ·have h2:(j:Int)<y.length:=by omega
    have hy1:y[j]? =some (y.getD j 0):=by rw[ac (by omega)];exact zg (by omega)
    have ha:=hlx.at (show 0<pp by omega) k;have hb:=hly.at (show 0<pp by omega) j;simp only at ha hb;have hab:=AB ha hb hp2;have hpa:0≤(pp-x.getD k 0)*y.getD j 0:=Int.mul_nonneg (by omega) hb.1;have hpb:(pp-x.getD k 0)*y.getD j 0≤(pp-x.getD k 0)*1000003:=Int.mul_le_mul_of_nonneg_left (by omega) (by omega);have hp0:pp≠0:=by omega
    have hRn:bR ⟨kk,pp,nn⟩ y k (x.getD k 0) (de ⟨kk,pp,nn⟩ x y (List.replicate wd 0) k) (j+1)=sy ⟨kk,pp,nn⟩ (bR ⟨kk,pp,nn⟩ y k (x.getD k 0) (de ⟨kk,pp,nn⟩ x y (List.replicate wd 0) k) j) k j (x.getD k 0) (y.getD j 0):=rfl;rw[sy,hR3]at hRn;generalize bR ⟨kk,pp,nn⟩ y k (x.getD k 0) (de ⟨kk,pp,nn⟩ x y (List.replicate wd 0) k) j=cur at*;generalize hae:x.getD k 0=a at*;generalize hbe:y.getD j 0=b at*;have hc:=hR2.at (show 0<pp by omega) (k+j);have hc4:=hR2.at (show 0<pp by omega) (k+j-4);simp only at hc hc4 hRn;have e1:(k:Int)+j=(k+j:Nat):=by push_cast;rfl
    by_cases h3:k+j<wd
    ·have h3':((k+j:Nat):Int)<wd:=by omega
     have h3'':((k+j:Nat):Int)<x.length:=by omega
     rw[if_pos h3]at hRn;have hg:cur[k+j]? =some (cur.getD (k+j) 0):=by rw[ac (by omega)];exact zg (by omega)
     have hq:=fun v=>cW (xs:=cur) (n:=k+j) (x:=v) (by omega)
     simp(disch:=omega) only[go_sem,seval,reduceCtorEq,h2,hx1,hy1,hp0,e1,h3',h3'',hg,hae,ne_eq,not_false_eq_true];refine⟨by omega, ?_⟩;(refine Next.drop (mkB 151 19342813113834066661084160) (by omega) (h1:= ?_) (h2:= ?_)<;>first|(simp only[go_sem,seval,reduceCtorEq,nz,na,n1,hq, ← hRn];first|done|rfl)|rfl|skip)
    ·rw[if_neg h3]at hRn
     have h3':¬((k+j:Nat):Int)<x.length:=by omega
     rcases hk' with rfl|rfl|rfl
     ·omega
     ·rw[if_neg (by decide)]at hRn
      simp(disch:=omega) only[go_sem,seval,reduceCtorEq,h2,hx1,hy1,hp0,e1,h3',hae,ne_eq,not_false_eq_true];(refine Next.drop (mkB 151 19342813113834066661084160) (by omega) (h1:= ?_) (h2:= ?_)<;>first|(simp only[go_sem,seval,reduceCtorEq,nz,na,n1, ← hRn];first|done|rfl)|rfl|skip)
     ·rw[if_pos rfl]at hRn
      have hw4:wd=4:=by simp [af]at hw;omega
      have e4:((k+j:Nat):Int)-4=(k+j-4:Nat):=by omega
      have h5:((k+j-4:Nat):Int)<x.length:=by omega
      have hg:cur[k+j-4]? =some (cur.getD (k+j-4) 0):=by rw[ac (by omega)];exact zg (by omega)
      have hq:=fun v=>cW (xs:=cur) (n:=k+j-4) (x:=v) (by omega)
      simp(disch:=omega) only[go_sem,seval,reduceCtorEq,h2,hx1,hy1,hp0,e1,e4,h3',h5,hg,hae,ne_eq,not_false_eq_true];refine⟨by omega, ?_⟩;(refine Next.drop (mkB 151 19342813113834066661084160) (by omega) (h1:= ?_) (h2:= ?_)<;>first|(simp only[go_sem,seval,reduceCtorEq,nz,na,n1,hq, ← hRn];first|done|rfl)|rfl|skip)
   ·have h2:¬(j:Int)<y.length:=by omega
    have hjw:j=y.length:=by omega
    simp(disch:=omega) only[go_sem,seval,reduceCtorEq,h2];(refine Next.drop (mkB 151 38685626227668133589552896) (by omega) (h1:= ?_) (h2:= ?_)<;>first|(simp only[go_sem,seval,reduceCtorEq,nz,na,n1,de,hjw];first|done|rfl)|rfl|skip)
  ·have h1:¬(k:Int)<x.length:=by omega
   have hkw:k=wd:=by omega
   subst hkw;simp(disch:=omega) only[go_sem,seval,reduceCtorEq,h1];(refine zE ?_ ?_<;>try simp only[go_sem,seval,reduceCtorEq])
   all_goals simp only[he,lx]
set_option maxRecDepth 100000
theorem wK{x wd l d m:Nat}{ca cb cc:List Int}{kk pp nn:Int}(hw:af ⟨kk,pp,nn⟩=(wd:Int))(h1:1≤wd∧wd≤6)(hx:x*wd+wd≤m)(hx2:x≤1099511627776)(h:m≤1099511627776):
  Does Tryz.prog 76 [aY kk pp nn,.agg [.own 0 0 l,.own 1 0 d,.own 2 0 m],.d (.int x)] [some ⟨1,false,iv ca⟩,some ⟨1,false,iv cb⟩,some ⟨1,false,iv cc⟩] (.own 2 (x*wd) wd) [some ⟨1,false,iv ca⟩,some ⟨1,false,iv cb⟩,some ⟨1,false,iv cc⟩]:=by
 refine zS Tryz.func76 oM ?_;unfold ki;refine zT ?_;(refine zC (eL kk pp nn) ?_);have e1:(x:Int)*wd=(x*wd:Nat):=by push_cast;rfl
 have e2:((x:Int)+1)*wd=(x*wd+wd:Nat):=by push_cast;rw[Int.add_mul,Int.one_mul]
 have e3:(((x*wd+wd:Nat):Int)-(x*wd:Nat)).toNat=wd:=by omega
 have c1:((x*wd:Nat):Int)<(x*wd+wd:Nat):=by omega
 simp(disch:=omega) only[go_sem,seval,reduceCtorEq,hw,e1,e2,e3,c1,or_true];refine⟨⟨by omega,by omega⟩, ?_⟩;exact zX
theorem zp{x wd l d m:Nat}{kk pp nn:Int}{ca cb cc ys:List Int}(hl:l=ca.length)(hd:d=cb.length)(hm:m=cc.length)(hw:af ⟨kk,pp,nn⟩=(wd:Int))(hy:ys.length=wd)(h1:1≤wd∧wd≤6)(hx:x*wd+wd≤m)(hx2:x≤1099511627776)(h:m≤1099511627776):
  Does Tryz.prog 84 [aY kk pp nn,.agg [.own 0 0 l,.own 1 0 d,.own 2 0 m],.d (.int x),.d (ints ys)] [some ⟨1,false,iv ca⟩,some ⟨1,false,iv cb⟩,some ⟨1,false,iv cc⟩] (.tup []) [some ⟨1,false,iv ca⟩,some ⟨1,false,iv cb⟩,some ⟨1,false,iv (putE cc (x*wd) ys)⟩]:=by
 subst hl hd hm;exact I5 (t:=⟨ca,cb,cc⟩) hw hy h1 hx hx2 h
theorem fB{r:Rg}{xs:List Int}(h:fits r xs)(a b:Nat):fits r ((xs.drop a).take b):=by
 intro k hk;have hk':k<b∧k<xs.length-a:=by simpa [Nat.lt_min]using hk
 have:=h (a+k) (by omega);rw[ac hk];simp only[List.getElem_take,List.getElem_drop]
 rwa [ac (by omega)]at this
theorem fq{i n wd:Nat}(h:i<n):i*wd+wd≤n*wd:=by
 have:(i+1)*wd≤n*wd:=Nat.mul_le_mul_right wd h;rw[Nat.add_mul,Nat.one_mul]at this;exact this
theorem ct{r:Rg}{t:Ten}(h:al r t.labels t.dims t.data=true):∃wd n:Nat,af r=wd∧aa t.dims=n∧1≤wd∧wd≤6∧1≤n∧n≤4096∧t.data.length=n*wd∧fits r t.data∧ai r=true∧axOk t.labels t.dims:=by
 obtain⟨f1,f2,f3,f4,f5,f6⟩:=bI h;have hw:=cm f1;refine⟨(af r).toNat,(aa t.dims).toNat,by omega,by omega,by omega,by omega,by omega,by omega, ?_, ?_,f1,f2⟩
 ·have:(t.data.length:Int)=((aa t.dims).toNat*(af r).toNat:Nat):=by
   rw[f6];push_cast;rw[Int.toNat_of_nonneg (by omega),Int.toNat_of_nonneg (by omega)]
  omega
 ·simp only[al,Bool.and_eq_true,jm,decide_eq_true_eq]at h
  exact h.2
end Go.Proofs.YtobhmajhachnaaaGreatDoor
