/-
 Contracts: lists searched, products, sizes of tensors, tensors that are right. No condition.
-/
import Derived.Test.YtneocijmbnhblaaGreatRng
import Derived.Test.YtneocijmbnhblaaGreatLift28
set_option linter.unusedSimpArgs false
set_option linter.unusedVariables false
namespace Go.Proofs.YtneocijmbnhblaaGreat
open Go.RowKit Go.Lift Plain
set_option maxRecDepth 100000
theorem fJ {xs:List Int} {x:Int} (h:xs.length≤1099511627776):Does Tryz.prog 75 [.d (ints xs),.d (.int x)] [] (.d (.bool (has xs x))) []:=by
 (refine spec_of (by kernel_rfl) Tryz.func75 rr (fnOk (nb rfl) ?_);unfold C_impl_hasInt)
 (simp only[Nat.reduceSub,List.length_cons,List.length_nil,Nat.reduceAdd,am,al,aj,ai,ah,af,ae,ac];try simp only[au]);(simp only[go_sem,seval,reduceCtorEq,List.replicate])
 refine i9 (xs.length) (fun k=>x∉xs.take k) (fun k=>(ch (.any) (.d (.int x)) (.any) (.any) (.any) (.any) (.any) (.d (ints xs)) (.d (.int xs.length)) (.d (.int k)) (.any) (.any) (.any) (.any) (.any) (.any) [.any])) (fun k=>[]) (by simp) (Wk.kept' [1,7,8,9] 0 (nb rfl) (by first | rfl | simp only[go_sem,seval,reduceCtorEq,bX,aW,aV,bD,cg,cut,List.contains_cons,List.contains_nil,Nat.reduceBEq,Int.natCast_zero,Int.natCast_add,Int.natCast_one]) (by first | rfl | simp only[go_sem,seval,reduceCtorEq,bX,aW,aV,bD,cg,cut,List.contains_cons,List.contains_nil,Nat.reduceBEq,Int.natCast_zero,Int.natCast_add,Int.natCast_one])) fun k hk hi=> ?_
 unfold L0_impl_hasInt
 by_cases hlt:k<xs.length
 ·have h1:(k:Int)<xs.length:=by omega
  have hx:xs[k]? =some xs[k]:=List.getElem?_eq_getElem hlt
  by_cases he:x=xs[k]
  ·have he':(x==xs[k])=true:=by simp [he]
   have e:has xs x=true:=ba.2 (by rw[he];exact List.getElem_mem _)
   simp(disch:=omega) only[go_sem,seval,reduceCtorEq,h1,hx,he',e]
   (refine FnEnd.mk (nb rfl) rfl (of_decide_eq_true rfl) ?_ ?_<;>try simp only[go_sem,seval,reduceCtorEq])
  ·have he':(x==xs[k])=false:=by simp [he]
   simp(disch:=omega) only[go_sem,seval,reduceCtorEq,h1,hx,he']
   (refine NextI.mk hlt (iZ hlt hi he) (Wk.kept' [1,7,8,9] 0 (nb rfl) ?_ ?_)<;>first | rfl | (simp only[go_sem,seval,reduceCtorEq,bX,aW,aV,bD,cg,cut,List.contains_cons,List.contains_nil,Nat.reduceBEq,Int.natCast_zero,Int.natCast_add,Int.natCast_one];done) | skip)
 ·have h1:¬ (k:Int)<xs.length:=by omega
  have e:has xs x=false:=bH.2 (by rw[List.take_of_length_le (by omega)]at hi;exact hi)
  simp(disch:=omega) only[go_sem,seval,reduceCtorEq,h1,e]
  (refine FnEnd.mk (nb rfl) rfl (of_decide_eq_true rfl) ?_ ?_<;>try simp only[go_sem,seval,reduceCtorEq])
theorem fZ {xs:List Int} {x:Int} (h:xs.length≤1099511627776):Does Tryz.prog 80 [.d (ints xs),.d (.int x)] [] (.d (.int (place xs x))) []:=by
 (refine spec_of (by kernel_rfl) Tryz.func80 qk (fnOk (nb rfl) ?_);unfold C_spec_l05Find)
 (simp only[Nat.reduceSub,List.length_cons,List.length_nil,Nat.reduceAdd,am,al,aj,ai,ah,af,ae,ac];try simp only[au]);(simp only[go_sem,seval,reduceCtorEq,List.replicate])
 refine i9 (xs.length) (fun k=>x∉xs.take k) (fun k=>(ch (.any) (.d (.int x)) (.any) (.any) (.any) (.any) (.any) (.d (ints xs)) (.d (.int xs.length)) (.d (.int k)) (.any) (.any) (.any) (.any) (.any) (.any) [.any,.any,.any])) (fun k=>[]) (by simp) (Wk.kept' [1,7,8,9] 0 (nb rfl) (by first | rfl | simp only[go_sem,seval,reduceCtorEq,bX,aW,aV,bD,cg,cut,List.contains_cons,List.contains_nil,Nat.reduceBEq,Int.natCast_zero,Int.natCast_add,Int.natCast_one]) (by first | rfl | simp only[go_sem,seval,reduceCtorEq,bX,aW,aV,bD,cg,cut,List.contains_cons,List.contains_nil,Nat.reduceBEq,Int.natCast_zero,Int.natCast_add,Int.natCast_one])) fun k hk hi=> ?_
 unfold L0_spec_l05Find
 by_cases hlt:k<xs.length
 ·have h1:(k:Int)<xs.length:=by omega
  have hx:xs[k]? =some xs[k]:=List.getElem?_eq_getElem hlt
  by_cases he:xs[k]=x
  ·have he':(xs[k]==x)=true:=by simp [he]
   have e:place xs x=k:=by rw[← he];exact dD hlt (by rw[he];exact hi)
   simp(disch:=omega) only[go_sem,seval,reduceCtorEq,h1,hx,he',e]
   (refine FnEnd.mk (nb rfl) rfl (of_decide_eq_true rfl) ?_ ?_<;>try simp only[go_sem,seval,reduceCtorEq])
  ·have he':(xs[k]==x)=false:=by simp [he]
   simp(disch:=omega) only[go_sem,seval,reduceCtorEq,h1,hx,he']
   (refine NextI.mk hlt (iZ hlt hi (fun e=>he e.symm)) (Wk.kept' [1,7,8,9] 0 (nb rfl) ?_ ?_)<;>first | rfl | (simp only[go_sem,seval,reduceCtorEq,bX,aW,aV,bD,cg,cut,List.contains_cons,List.contains_nil,Nat.reduceBEq,Int.natCast_zero,Int.natCast_add,Int.natCast_one];done) | skip)
 ·have h1:¬ (k:Int)<xs.length:=by omega
  have e:place xs x= -1:=gf (by rw[List.take_of_length_le (by omega)]at hi;exact hi)
  simp(disch:=omega) only[go_sem,seval,reduceCtorEq,h1,e]
  (refine FnEnd.mk (nb rfl) rfl (of_decide_eq_true rfl) ?_ ?_<;>try simp only[go_sem,seval,reduceCtorEq])
theorem dM {ds:List Int} {lim:Int} (h:ds.length≤1099511627776) (hd:∀ d∈ds,1≤d∧d≤100) (hl:1≤lim∧lim≤1000000000):Does Tryz.prog 77 [.d (ints ds),.d (.int lim)] [] (.d (.int (min (ab ds) (lim+1)))) []:=by
 (refine spec_of (by kernel_rfl) Tryz.func77 mo (fnOk (nb rfl) ?_);unfold C_spec_l05Product)
 (simp only[Nat.reduceSub,List.length_cons,List.length_nil,Nat.reduceAdd,am,al,aj,ai,ah,af,ae,ac];try simp only[au]);(simp only[go_sem,seval,reduceCtorEq,List.replicate])
 have e0:min (ab []) (lim+1)=1:=by rw[rR];omega
 refine ic (ds.length) (fun k=>(ch (.any) (.d (.int lim)) (.any) (.any) (.any) (.d (.int (min (ab (ds.take k)) (lim+1)))) (.any) (.any) (.d (ints ds)) (.d (.int ds.length)) (.d (.int k)) (.any) (.any) (.any) (.any) (.any) [.any,.any,.any,.any,.any,.any])) (fun k=>[]) (Wk.kept' [1,5,8,9,10] 0 (nb rfl) (by first | rfl | simp only[go_sem,seval,reduceCtorEq,bX,aW,aV,bD,cg,cut,List.contains_cons,List.contains_nil,Nat.reduceBEq,Int.natCast_zero,Int.natCast_add,Int.natCast_one,e0]) (by first | rfl | simp only[go_sem,seval,reduceCtorEq,bX,aW,aV,bD,cg,cut,List.contains_cons,List.contains_nil,Nat.reduceBEq,Int.natCast_zero,Int.natCast_add,Int.natCast_one,e0])) fun k hk=> ?_
 unfold L0_spec_l05Product
 by_cases hlt:k<ds.length
 ·have h1:(k:Int)<ds.length:=by omega
  have hx:ds[k]? =some ds[k]:=List.getElem?_eq_getElem hlt
  have e:=di ds k hlt
  rw[ao hlt]at e
  have hb:=hd ds[k] (List.getElem_mem _)
  have b1:=bi (ds.take k) (fun d hd'=>(hd d (List.mem_of_mem_take hd')).1)
  have e2:=Cn (ab (ds.take k)) ds[k] (lim+1) hb.1 (by omega)
  rw[← e]at e2
  have b3:0≤min (ab (ds.take k)) (lim+1)*ds[k]:=Int.mul_nonneg (by omega) (by omega)
  have b4:min (ab (ds.take k)) (lim+1)*ds[k]≤(lim+1)*100:=Int.mul_le_mul (by omega) hb.2 (by omega) (by omega)
  simp(disch:=omega) only[go_sem,seval,reduceCtorEq,h1,hx]
  (refine Next.mk hlt (Wk.kept' [1,5,8,9,10] 0 (nb rfl) ?_ ?_)<;>first | rfl | (simp only[go_sem,seval,reduceCtorEq,bX,aW,aV,bD,cg,cut,List.contains_cons,List.contains_nil,Nat.reduceBEq,Int.natCast_zero,Int.natCast_add,Int.natCast_one,e2];done) | skip)
 ·have h1:¬ (k:Int)<ds.length:=by omega
  simp(disch:=omega) only[go_sem,seval,reduceCtorEq,h1]
  (refine FnEnd.mk (nb rfl) rfl (of_decide_eq_true rfl) ?_ ?_<;>try simp only[go_sem,seval,reduceCtorEq])
  rw[List.take_of_length_le (by omega)]
theorem xD {ls ds:List Int} {k:Nat} (h1:k<ls.length) (h2:k<ds.length) (h:¬ (0≤ls[k]∧ls[k]≤99∧1≤ds[k]∧ds[k]≤8∧ls[k]∉ls.take k)):¬ axAt ls ds k:=by
 unfold axAt
 rw[ao h1,ao h2]
 exact h
set_option maxHeartbeats 1600000 in
theorem i7 {t:Ten} (h:TSz 1099511627776 t):Does Tryz.prog 70 [tenA t] [] (.d (.int (be t.labels t.dims))) []:=by
 obtain⟨ls,ds,xs⟩:=t
 generalize hT:be ls ds=T
 (refine spec_of (by kernel_rfl) Tryz.func70 mz (fnOk (nb rfl) ?_);unfold C_impl_TensorSize)
 unfold tenA
 simp only
 (simp only[Nat.reduceSub,List.length_cons,List.length_nil,Nat.reduceAdd,am,al,aj,ai,ah,af,ae,ac];try simp only[au]);(simp only[go_sem,seval,reduceCtorEq,List.replicate])
 by_cases a1:(ls.length:Int)>12
 ·have e:=pD (ls:=ls) (ds:=ds) (by omega)
  rw[hT]at e
  simp only[go_sem,seval,reduceCtorEq,a1,e]
  (refine FnEnd.mk (nb rfl) rfl (of_decide_eq_true rfl) ?_ ?_<;>try simp only[go_sem,seval,reduceCtorEq])
 by_cases a2:ls.length=ds.length
 rotate_left
 ·have e:=vL a2
  rw[hT]at e
  have c:((ls.length:Int) !=ds.length)=true:=by simp;omega
  simp only[go_sem,seval,reduceCtorEq,a1,c,e]
  (refine FnEnd.mk (nb rfl) rfl (of_decide_eq_true rfl) ?_ ?_<;>try simp only[go_sem,seval,reduceCtorEq])
 have c:((ls.length:Int) !=ds.length)=false:=by simp;omega
 simp only[go_sem,seval,reduceCtorEq,a1,c]
 have p0:ab (ds.take 0)=1:=rfl
 have hI0:(∀ j,j<0→axAt ls ds j)∧ab (ds.take 0)≤4096∧1≤ab (ds.take 0):=⟨fun j hj=>absurd hj (Nat.not_lt_zero j),by rw[p0];omega,by rw[p0];omega⟩
 refine cP (ls.length) (mkB 64 9223372036837998708) (fun k=>(∀ j,j<k→axAt ls ds j)∧ab (ds.take k)≤4096∧1≤ab (ds.take k)) (fun k=>[(3,.d (.int (ab (ds.take k)))),(23,.d (.int k))]) (fun k=>[]) (hi:=hI0) (h1:=by first | (simp only[go_sem,seval,reduceCtorEq,nz,na,n1,p0];first | done | rfl) | rfl) (h2:=by first | (simp only[go_sem,seval,reduceCtorEq,nz,na,n1,p0];first | done | rfl) | rfl) (hr:=fun k hk hi=> ?_)
 unfold L0_impl_TensorSize
 obtain⟨i1,i2,i3⟩:=hi
 by_cases hlt:k<ls.length
 ·have d1:(k:Int)<ls.length:=by omega
  have hk:k<ds.length:=by omega
  have g1:ls[k]? =some ls[k]:=List.getElem?_eq_getElem hlt
  have g2:ds[k]? =some ds[k]:=List.getElem?_eq_getElem hk
  have htk:(ls.take k).length=k:=by rw[List.length_take];omega
  have bad:¬ (0≤ls[k]∧ls[k]≤99∧1≤ds[k]∧ds[k]≤8∧ls[k]∉ls.take k)→T= -1:=fun hb=>by rw[← hT];exact uc k hlt (xD hlt hk hb)
  simp(disch:=omega) only[go_sem,seval,reduceCtorEq,d1,g1,Option.map_some]
  by_cases b1:ls[k]<0
  ·simp only[go_sem,seval,reduceCtorEq,b1,bad (by omega)]
   (refine FnEnd.mk (nb rfl) rfl (of_decide_eq_true rfl) ?_ ?_<;>try simp only[go_sem,seval,reduceCtorEq])
  by_cases b2:ls[k]>99
  ·simp only[go_sem,seval,reduceCtorEq,b1,b2,bad (by omega)]
   (refine FnEnd.mk (nb rfl) rfl (of_decide_eq_true rfl) ?_ ?_<;>try simp only[go_sem,seval,reduceCtorEq])
  simp(disch:=omega) only[go_sem,seval,reduceCtorEq,b1,b2]
  (repeat (refine And.intro (by omega) ?_))
  (refine aa (fJ (xs:=ls.take k) (x:=ls[k]) (by omega)) ?_ ?_ ?_;(focus (simp only[go_sem,seval,reduceCtorEq,htk,Int.sub_zero];done));(first | rfl | (focus (simp only[go_sem];done))))
  cases b3:has (ls.take k) ls[k]
  rotate_left
  ·simp only[go_sem,seval,reduceCtorEq,b3,bad (fun h=>h.2.2.2.2 (ba.1 b3))]
   (refine FnEnd.mk (nb rfl) rfl (of_decide_eq_true rfl) ?_ ?_<;>try simp only[go_sem,seval,reduceCtorEq])
  simp(disch:=omega) only[go_sem,seval,reduceCtorEq,b3,g2,Option.map_some]
  (repeat (refine And.intro (by omega) ?_))
  by_cases b4:ds[k]<1
  ·simp(disch:=omega) only[go_sem,seval,reduceCtorEq,b4,bad (by omega)]
   (refine FnEnd.mk (nb rfl) rfl (of_decide_eq_true rfl) ?_ ?_<;>try simp only[go_sem,seval,reduceCtorEq])
  by_cases b5:ds[k]>8
  ·simp(disch:=omega) only[go_sem,seval,reduceCtorEq,b4,b5,bad (by omega)]
   (refine FnEnd.mk (nb rfl) rfl (of_decide_eq_true rfl) ?_ ?_<;>try simp only[go_sem,seval,reduceCtorEq])
  have hpb:1*1≤ab (ds.take k)*ds[k]:=Int.mul_le_mul i3 (by omega) (by omega) (by omega)
  have hpc:ab (ds.take k)*ds[k]≤4096*8:=Int.mul_le_mul i2 (by omega) (by omega) (by omega)
  have hw:IntKind.i64.wrap (ab (ds.take k)*ds[k])=ab (ds.take k)*ds[k]:=IntWalk.i64_in _ (by omega)
  have hps:ab (ds.take (k+1))=ab (ds.take k)*ds[k]:=by rw[di ds k hk,ao hk]
  by_cases b6:ab (ds.take k)*ds[k]>4096
  ·have e:T= -1:=by rw[← hT];exact xP k hlt a2 (by rw[ao hk];omega)
   simp(disch:=omega) only[go_sem,seval,reduceCtorEq,b4,b5,hw,b6,e]
   (refine FnEnd.mk (nb rfl) rfl (of_decide_eq_true rfl) ?_ ?_<;>try simp only[go_sem,seval,reduceCtorEq])
  ·have hI:(∀ j,j<k+1→axAt ls ds j)∧ab (ds.take (k+1))≤4096∧1≤ab (ds.take (k+1)):=by
    refine⟨fun j hj=> ?_,by rw[hps];omega,by rw[hps];omega⟩
    by_cases e:j=k
    ·subst e
     unfold axAt
     rw[ao hlt,ao hk]
     exact⟨by omega,by omega,by omega,by omega,bH.1 b3⟩
    ·exact i1 j (by omega)
   simp(disch:=omega) only[go_sem,seval,reduceCtorEq,b4,b5,hw,b6]
   (refine NextI.drop (mkB 64 9223372036837998708) (by omega) (hI) (h1:= ?_) (h2:= ?_)<;>first | (simp only[go_sem,seval,reduceCtorEq,nz,na,n1,hps];first | done | rfl) | rfl | skip)
 ·have d1:¬ (k:Int)<ls.length:=by omega
  obtain rfl:k=ls.length:=by omega
  have htl:ds.take ls.length=ds:=List.take_of_length_le (by omega)
  rw[htl]at i2
  have e:=vM (by omega) a2 i1 i2
  rw[hT]at e
  simp(disch:=omega) only[go_sem,seval,reduceCtorEq,d1,htl,e]
  (refine FnEnd.mk (nb rfl) rfl (of_decide_eq_true rfl) ?_ ?_<;>try simp only[go_sem,seval,reduceCtorEq])
theorem yr {ls ds:List Int} (h:ls.length≤1099511627776) (h2:ds.length≤1099511627776):Does Tryz.prog 121 [.d (ints ls),.d (ints ds)] [] (.d (.bool (decide (axOk ls ds)))) []:=by
 generalize hT:decide (axOk ls ds)=T
 (refine spec_of (by kernel_rfl) Tryz.func121 qm (fnOk (nb rfl) ?_);unfold C_spec_l05Axes)
 (simp only[Nat.reduceSub,List.length_cons,List.length_nil,Nat.reduceAdd,am,al,aj,ai,ah,af,ae,ac];try simp only[au]);(simp only[go_sem,seval,reduceCtorEq,List.replicate])
 by_cases a1:(ls.length:Int)>12
 ·have e:T=false:=by rw[← hT];exact decide_eq_false fun h=>by have:=h.1;omega
  simp only[go_sem,seval,reduceCtorEq,a1,e]
  (refine FnEnd.mk (nb rfl) rfl (of_decide_eq_true rfl) ?_ ?_<;>try simp only[go_sem,seval,reduceCtorEq])
 by_cases a2:ls.length=ds.length
 rotate_left
 ·have e:T=false:=by rw[← hT];exact decide_eq_false fun h=>a2 h.2.1
  have c:((ls.length:Int) !=ds.length)=true:=by simp;omega
  simp only[go_sem,seval,reduceCtorEq,a1,c,e]
  (refine FnEnd.mk (nb rfl) rfl (of_decide_eq_true rfl) ?_ ?_<;>try simp only[go_sem,seval,reduceCtorEq])
 have c:((ls.length:Int) !=ds.length)=false:=by simp;omega
 simp only[go_sem,seval,reduceCtorEq,a1,c]
 refine cP (ls.length) (mkB 44 17592184995952) (fun k=>∀ j,j<k→axAt ls ds j) (fun k=>[(19,.d (.int k))]) (fun k=>[]) (hi:=fun j hj=>absurd hj (Nat.not_lt_zero j)) (h1:=by first | (simp only[go_sem,seval,reduceCtorEq,nz,na,n1];first | done | rfl) | rfl) (h2:=by first | (simp only[go_sem,seval,reduceCtorEq,nz,na,n1];first | done | rfl) | rfl) (hr:=fun k hk hi=> ?_)
 unfold L0_spec_l05Axes
 by_cases hlt:k<ls.length
 ·have d1:(k:Int)<ls.length:=by omega
  have hk:k<ds.length:=by omega
  have g1:ls[k]? =some ls[k]:=List.getElem?_eq_getElem hlt
  have g2:ds[k]? =some ds[k]:=List.getElem?_eq_getElem hk
  have htk:(ls.take k).length=k:=by rw[List.length_take];omega
  have bad:¬ (0≤ls[k]∧ls[k]≤99∧1≤ds[k]∧ds[k]≤8∧ls[k]∉ls.take k)→T=false:=fun hb=>by rw[← hT];exact decide_eq_false fun h=>xD hlt hk hb (h.2.2 k hlt)
  simp(disch:=omega) only[go_sem,seval,reduceCtorEq,d1,g1,Option.map_some]
  (refine aa (fx ls[k] 0 99) ?_ ?_ ?_;(focus (simp only[go_sem,seval,reduceCtorEq];done));(first | rfl | (focus (simp only[go_sem];done))))
  cases b1:decide (0≤ls[k]∧ls[k]≤99)
  ·simp(disch:=omega) only[go_sem,seval,reduceCtorEq,b1,bad (fun h=>of_decide_eq_false b1 ⟨h.1,h.2.1⟩)]
   (refine FnEnd.mk (nb rfl) rfl (of_decide_eq_true rfl) ?_ ?_<;>try simp only[go_sem,seval,reduceCtorEq])
  simp(disch:=omega) only[go_sem,seval,reduceCtorEq,b1,g2,Option.map_some]
  (repeat (refine And.intro (by omega) ?_))
  (refine aa (fx ds[k] 1 8) ?_ ?_ ?_;(focus (simp only[go_sem,seval,reduceCtorEq];done));(first | rfl | (focus (simp only[go_sem];done))))
  cases b2:decide (1≤ds[k]∧ds[k]≤8)
  ·simp(disch:=omega) only[go_sem,seval,reduceCtorEq,b2,bad (fun h=>of_decide_eq_false b2 ⟨h.2.2.1,h.2.2.2.1⟩)]
   (refine FnEnd.mk (nb rfl) rfl (of_decide_eq_true rfl) ?_ ?_<;>try simp only[go_sem,seval,reduceCtorEq])
  simp(disch:=omega) only[go_sem,seval,reduceCtorEq,b2]
  (repeat (refine And.intro (by omega) ?_))
  (refine aa (fZ (xs:=ls.take k) (x:=ls[k]) (by omega)) ?_ ?_ ?_;(focus (simp only[go_sem,seval,reduceCtorEq,htk,Int.sub_zero];done));(first | rfl | (focus (simp only[go_sem];done))))
  by_cases b3:ls[k]∈ls.take k
  ·have c3:place (ls.take k) ls[k]≥0:=Int.not_lt.1 fun h=>dK.1 h b3
   simp only[go_sem,seval,reduceCtorEq,c3,bad (fun h=>h.2.2.2.2 b3)]
   (refine FnEnd.mk (nb rfl) rfl (of_decide_eq_true rfl) ?_ ?_<;>try simp only[go_sem,seval,reduceCtorEq])
  ·have c3:¬ place (ls.take k) ls[k]≥0:=Int.not_le.2 (dK.2 b3)
   have hI:∀ j,j<k+1→axAt ls ds j:=fun j hj=>by
    by_cases e:j=k
    ·subst e
     unfold axAt
     rw[ao hlt,ao hk]
     have q1:=of_decide_eq_true b1
     have q2:=of_decide_eq_true b2
     exact⟨q1.1,q1.2,q2.1,q2.2,b3⟩
    ·exact hi j (by omega)
   simp(disch:=omega) only[go_sem,seval,reduceCtorEq,c3]
   (refine NextI.drop (mkB 44 17592184995952) (by omega) (hI) (h1:= ?_) (h2:= ?_)<;>first | (simp only[go_sem,seval,reduceCtorEq,nz,na,n1];first | done | rfl) | rfl | skip)
 ·have d1:¬ (k:Int)<ls.length:=by omega
  obtain rfl:k=ls.length:=by omega
  have e:T=true:=by rw[← hT];exact decide_eq_true ⟨by omega,a2,hi⟩
  simp(disch:=omega) only[go_sem,seval,reduceCtorEq,d1,e]
  (refine FnEnd.mk (nb rfl) rfl (of_decide_eq_true rfl) ?_ ?_<;>try simp only[go_sem,seval,reduceCtorEq])
theorem kU {t:Ten} (h:TSz 1099511627776 t):Does Tryz.prog 117 [tenA t] [] (.d (.int (be t.labels t.dims))) []:=by
 have hl:=h.l.len
 have hd:=h.d.len
 obtain⟨ls,ds,xs⟩:=t
 simp only at hl hd ⊢
 generalize hT:be ls ds=T
 (refine spec_of (by kernel_rfl) Tryz.func117 mp (fnOk (nb rfl) ?_);unfold C_spec_TensorSize)
 unfold tenA
 simp only
 (simp only[Nat.reduceSub,List.length_cons,List.length_nil,Nat.reduceAdd,am,al,aj,ai,ah,af,ae,ac];try simp only[au]);(simp only[go_sem,seval,reduceCtorEq,List.replicate])
 (refine aa (yr (ls:=ls) (ds:=ds) hl hd) ?_ ?_ ?_;(focus (simp only[go_sem,seval,reduceCtorEq];done));(first | rfl | (focus (simp only[go_sem];done))))
 cases a1:decide (axOk ls ds)
 ·have e:T= -1:=by rw[← hT];exact if_neg fun h=>of_decide_eq_false a1 h.1
  simp only[go_sem,seval,reduceCtorEq,a1,e]
  (refine FnEnd.mk (nb rfl) rfl (of_decide_eq_true rfl) ?_ ?_<;>try simp only[go_sem,seval,reduceCtorEq])
 have ax:=of_decide_eq_true a1
 simp only[go_sem,seval,reduceCtorEq,a1]
 (refine aa (dM (ds:=ds) (lim:=4096) hd (fun d hd=>by have:=ax.dim d hd;omega) (by omega)) ?_ ?_ ?_;(focus (simp only[go_sem,seval,reduceCtorEq];done));(first | rfl | (focus (simp only[go_sem];done))))
 by_cases b:min (ab ds) (4097)>4096
 ·have e:T= -1:=by rw[← hT];exact if_neg fun h=>by have:=h.2;omega
  simp only[go_sem,seval,reduceCtorEq,b,e]
  (refine FnEnd.mk (nb rfl) rfl (of_decide_eq_true rfl) ?_ ?_<;>try simp only[go_sem,seval,reduceCtorEq])
 ·have e:T=min (ab ds) (4097):=by rw[← hT,be,if_pos ⟨ax,by omega⟩];omega
  simp only[go_sem,seval,reduceCtorEq,b,e]
  (refine FnEnd.mk (nb rfl) rfl (of_decide_eq_true rfl) ?_ ?_<;>try simp only[go_sem,seval,reduceCtorEq])
set_option maxRecDepth 100000
theorem AW {r:Rg} {xs:List Int} {k:Nat} (hk:k<xs.length) (h:∀ j,j<k→0≤xs.getD j 0∧xs.getD j 0≤top r) (h2:0≤xs[k]∧xs[k]≤top r):∀ j,j<k+1→0≤xs.getD j 0∧xs.getD j 0≤top r:=fun j hj=>by
 by_cases e:j=k
 ·subst e;rw[ao hk];exact h2
 ·exact h j (by omega)
theorem AC {k p n:Int} {xs:List Int} (hr:aq ⟨k,p,n⟩=true) (h:Sz 1099511627776 xs):Does Tryz.prog 108 [bn k p n,.d (ints xs)] [] (.d (.bool (ju ⟨k,p,n⟩ xs))) []:=by
 have hl:=h.len
 generalize hT:ju ⟨k,p,n⟩ xs=T
 (refine spec_of (by kernel_rfl) Tryz.func108 rq (fnOk (nb rfl) ?_);unfold C_impl_inRing)
 (simp only[Nat.reduceSub,List.length_cons,List.length_nil,Nat.reduceAdd,am,al,aj,ai,ah,af,ae,ac];try simp only[au]);(simp only[go_sem,seval,reduceCtorEq,List.replicate])
 (refine aa (uF k p n hr) ?_ ?_ ?_;(focus (simp only[go_sem,seval,reduceCtorEq];done));(first | rfl | (focus (simp only[go_sem];done))))
 simp only[go_sem,seval,reduceCtorEq]
 refine cP (xs.length) (mkB 24 16769168) (fun q=>∀ j,j<q→0≤xs.getD j 0∧xs.getD j 0≤top ⟨k,p,n⟩) (fun q=>[(12,.d (.int q))]) (fun q=>[]) (hi:=fun j hj=>absurd hj (Nat.not_lt_zero j)) (h1:=by first | (simp only[go_sem,seval,reduceCtorEq,nz,na,n1];first | done | rfl) | rfl) (h2:=by first | (simp only[go_sem,seval,reduceCtorEq,nz,na,n1];first | done | rfl) | rfl) (hr:=fun q hq hiq=> ?_)
 unfold L0_impl_inRing
 by_cases hlt:q<xs.length
 ·have d1:(q:Int)<xs.length:=by omega
  have g1:xs[q]? =some xs[q]:=List.getElem?_eq_getElem hlt
  have gd:=ao hlt
  simp(disch:=omega) only[go_sem,seval,reduceCtorEq,d1,g1,Option.map_some]
  by_cases b1:xs[q]<0
  ·have e:T=false:=by rw[← hT];exact qH q hlt (by rw[gd];omega)
   simp only[go_sem,seval,reduceCtorEq,b1,e]
   (refine FnEnd.mk (nb rfl) rfl (of_decide_eq_true rfl) ?_ ?_<;>try simp only[go_sem,seval,reduceCtorEq])
  by_cases b2:xs[q]>top ⟨k,p,n⟩
  ·have e:T=false:=by rw[← hT];exact qH q hlt (by rw[gd];omega)
   simp only[go_sem,seval,reduceCtorEq,b1,b2,e]
   (refine FnEnd.mk (nb rfl) rfl (of_decide_eq_true rfl) ?_ ?_<;>try simp only[go_sem,seval,reduceCtorEq])
  simp(disch:=omega) only[go_sem,seval,reduceCtorEq,b1,b2]
  (refine NextI.drop (mkB 24 16769168) (by omega) (AW hlt hiq ⟨by omega,by omega⟩) (h1:= ?_) (h2:= ?_)<;>first | (simp only[go_sem,seval,reduceCtorEq,nz,na,n1];first | done | rfl) | rfl | skip)
 ·have d1:¬ (q:Int)<xs.length:=by omega
  obtain rfl:q=xs.length:=by omega
  have e:T=true:=by rw[← hT];exact sj hiq
  simp(disch:=omega) only[go_sem,seval,reduceCtorEq,d1,e]
  (refine FnEnd.mk (nb rfl) rfl (of_decide_eq_true rfl) ?_ ?_<;>try simp only[go_sem,seval,reduceCtorEq])
theorem db {k p n:Int} {t:Ten} (a:I64 k) (b:I64 p) (c:I64 n) (h:TSz 1099511627776 t):Does Tryz.prog 68 [bn k p n,tenA t] [] (.d (.bool (aA ⟨k,p,n⟩ t.labels t.dims t.data))) []:=by
 have hx:=h.x
 have hxl:=hx.len
 have hsz:=i7 h
 have htc:=d9 t.labels t.dims
 generalize hT:aA ⟨k,p,n⟩ t.labels t.dims t.data=T
 unfold aA at hT
 (refine spec_of (by kernel_rfl) Tryz.func68 p5 (fnOk (nb rfl) ?_);unfold C_impl_TensorOk)
 unfold tenA at hsz ⊢
 (simp only[Nat.reduceSub,List.length_cons,List.length_nil,Nat.reduceAdd,am,al,aj,ai,ah,af,ae,ac];try simp only[au]);(simp only[go_sem,seval,reduceCtorEq,List.replicate])
 (refine aa (se k p n) ?_ ?_ ?_;(focus (simp only[go_sem,seval,reduceCtorEq];done));(first | rfl | (focus (simp only[go_sem];done))))
 cases hr:aq ⟨k,p,n⟩
 ·have e:T=false:=by rw[← hT,hr];rfl
  simp only[go_sem,seval,reduceCtorEq,hr,e]
  (refine FnEnd.mk (nb rfl) rfl (of_decide_eq_true rfl) ?_ ?_<;>try simp only[go_sem,seval,reduceCtorEq])
 have hw:=cq hr
 simp only[go_sem,seval,reduceCtorEq,hr]
 (refine aa (hsz) ?_ ?_ ?_;(focus (simp only[go_sem,seval,reduceCtorEq];done));(first | rfl | (focus (simp only[go_sem];done))))
 simp only[go_sem,seval,reduceCtorEq]
 by_cases h1:be t.labels t.dims= -1
 ·have e:T=false:=by rw[← hT,hr,decide_eq_false fun h=>h.1 h1];rfl
  have c1:(be t.labels t.dims != -1)=false:=by simp [h1]
  simp only[go_sem,seval,reduceCtorEq,c1,e]
  (refine FnEnd.mk (nb rfl) rfl (of_decide_eq_true rfl) ?_ ?_<;>try simp only[go_sem,seval,reduceCtorEq])
 have c1:(be t.labels t.dims != -1)=true:=by simp [h1]
 have hb:1≤be t.labels t.dims∧be t.labels t.dims≤4096:=by rcases htc with e | e;exact absurd e h1;omega
 have hm1:1*1≤be t.labels t.dims*ar ⟨k,p,n⟩:=Int.mul_le_mul hb.1 hw.1 (by omega) (by omega)
 have hm2:be t.labels t.dims*ar ⟨k,p,n⟩≤4096*6:=Int.mul_le_mul hb.2 hw.2 (by omega) (by omega)
 have hwr:IntKind.i64.wrap (be t.labels t.dims*ar ⟨k,p,n⟩)=be t.labels t.dims*ar ⟨k,p,n⟩:=IntWalk.i64_in _ (by omega)
 simp only[go_sem,seval,reduceCtorEq,c1]
 (refine aC (eZ k p n) ?_ ?_ ?_;(focus (simp only[go_sem,seval,reduceCtorEq];done));(first | rfl | (focus (simp only[go_sem];done))))
 by_cases h2:(t.data.length:Int)=be t.labels t.dims*ar ⟨k,p,n⟩
 ·have c2:((t.data.length:Int)==be t.labels t.dims*ar ⟨k,p,n⟩)=true:=by simp [h2]
  have e:T=ju ⟨k,p,n⟩ t.data:=by rw[← hT,hr,decide_eq_true ⟨h1,h2⟩];rfl
  simp only[go_sem,seval,reduceCtorEq,hwr,c2]
  (refine aa (AC (xs:=t.data) hr hx) ?_ ?_ ?_;(focus (simp only[go_sem,seval,reduceCtorEq];done));(first | rfl | (focus (simp only[go_sem];done))))
  simp only[go_sem,seval,reduceCtorEq, ← e]
  (refine FnEnd.mk (nb rfl) rfl (of_decide_eq_true rfl) ?_ ?_<;>try simp only[go_sem,seval,reduceCtorEq])
 ·have c2:((t.data.length:Int)==be t.labels t.dims*ar ⟨k,p,n⟩)=false:=by simp [h2]
  have e:T=false:=by rw[← hT,hr,decide_eq_false fun h=>h2 h.2];rfl
  simp only[go_sem,seval,reduceCtorEq,hwr,c2,e]
  (refine FnEnd.mk (nb rfl) rfl (of_decide_eq_true rfl) ?_ ?_<;>try simp only[go_sem,seval,reduceCtorEq])
theorem un {k p n:Int} {t:Ten} (a:I64 k) (b:I64 p) (c:I64 n) (h:TSz 1099511627776 t):Does Tryz.prog 116 [bn k p n,tenA t] [] (.d (.bool (aA ⟨k,p,n⟩ t.labels t.dims t.data))) []:=by
 have hx:=h.x
 have hxl:=hx.len
 have hsz:=kU h
 have htc:=d9 t.labels t.dims
 generalize hT:aA ⟨k,p,n⟩ t.labels t.dims t.data=T
 unfold aA at hT
 (refine spec_of (by kernel_rfl) Tryz.func116 oT (fnOk (nb rfl) ?_);unfold C_spec_TensorOk)
 unfold tenA at hsz ⊢
 (simp only[Nat.reduceSub,List.length_cons,List.length_nil,Nat.reduceAdd,am,al,aj,ai,ah,af,ae,ac];try simp only[au]);(simp only[go_sem,seval,reduceCtorEq,List.replicate])
 (refine aa (hsz) ?_ ?_ ?_;(focus (simp only[go_sem,seval,reduceCtorEq];done));(first | rfl | (focus (simp only[go_sem];done))))
 simp only[go_sem,seval,reduceCtorEq]
 (refine aC (rK k p n) ?_ ?_ ?_;(focus (simp only[go_sem,seval,reduceCtorEq];done));(first | rfl | (focus (simp only[go_sem];done))))
 cases hr:aq ⟨k,p,n⟩
 ·have e:T=false:=by rw[← hT,hr];rfl
  simp only[go_sem,seval,reduceCtorEq,hr,e]
  (refine FnEnd.mk (nb rfl) rfl (of_decide_eq_true rfl) ?_ ?_<;>try simp only[go_sem,seval,reduceCtorEq])
 have hw:=cq hr
 simp only[go_sem,seval,reduceCtorEq,hr]
 by_cases h1:be t.labels t.dims= -1
 ·have e:T=false:=by rw[← hT,hr,decide_eq_false fun h=>h.1 h1];rfl
  have c1:be t.labels t.dims<0:=by omega
  simp only[go_sem,seval,reduceCtorEq,c1,e]
  (refine FnEnd.mk (nb rfl) rfl (of_decide_eq_true rfl) ?_ ?_<;>try simp only[go_sem,seval,reduceCtorEq])
 have hb:1≤be t.labels t.dims∧be t.labels t.dims≤4096:=by rcases htc with e | e;exact absurd e h1;omega
 have c1:¬ be t.labels t.dims<0:=by omega
 have hm1:1*1≤be t.labels t.dims*ar ⟨k,p,n⟩:=Int.mul_le_mul hb.1 hw.1 (by omega) (by omega)
 have hm2:be t.labels t.dims*ar ⟨k,p,n⟩≤4096*6:=Int.mul_le_mul hb.2 hw.2 (by omega) (by omega)
 have hwr:IntKind.i64.wrap (be t.labels t.dims*ar ⟨k,p,n⟩)=be t.labels t.dims*ar ⟨k,p,n⟩:=IntWalk.i64_in _ (by omega)
 simp only[go_sem,seval,reduceCtorEq,c1]
 (refine aC (fj k p n) ?_ ?_ ?_;(focus (simp only[go_sem,seval,reduceCtorEq];done));(first | rfl | (focus (simp only[go_sem];done))))
 by_cases h2:(t.data.length:Int)=be t.labels t.dims*ar ⟨k,p,n⟩
 ·have c2:((t.data.length:Int) !=be t.labels t.dims*ar ⟨k,p,n⟩)=false:=by simp [h2]
  have e:T=ju ⟨k,p,n⟩ t.data:=by rw[← hT,hr,decide_eq_true ⟨h1,h2⟩];rfl
  simp only[go_sem,seval,reduceCtorEq,hwr,c2]
  refine cP (t.data.length) (mkB 40 1097364144272) (fun q=>∀ j,j<q→0≤t.data.getD j 0∧t.data.getD j 0≤top ⟨k,p,n⟩) (fun q=>[(30,.d (.int q))]) (fun q=>[]) (hi:=fun j hj=>absurd hj (Nat.not_lt_zero j)) (h1:=by first | (simp only[go_sem,seval,reduceCtorEq,nz,na,n1];first | done | rfl) | rfl) (h2:=by first | (simp only[go_sem,seval,reduceCtorEq,nz,na,n1];first | done | rfl) | rfl) (hr:=fun q hq hiq=> ?_)
  unfold L0_spec_TensorOk
  by_cases hlt:q<t.data.length
  ·have d1:(q:Int)<t.data.length:=by omega
   have g1:t.data[q]? =some t.data[q]:=List.getElem?_eq_getElem hlt
   have gd:=ao hlt
   simp(disch:=omega) only[go_sem,seval,reduceCtorEq,d1,g1,Option.map_some]
   (refine aa (jQ k p n hr) ?_ ?_ ?_;(focus (simp only[go_sem,seval,reduceCtorEq];done));(first | rfl | (focus (simp only[go_sem];done))))
   simp(disch:=omega) only[go_sem,seval,reduceCtorEq]
   (refine aa (fx t.data[q] 0 (top ⟨k,p,n⟩)) ?_ ?_ ?_;(focus (simp only[go_sem,seval,reduceCtorEq];done));(first | rfl | (focus (simp only[go_sem];done))))
   cases b1:decide (0≤t.data[q]∧t.data[q]≤top ⟨k,p,n⟩)
   ·have e2:T=false:=by rw[e];exact qH q hlt (by rw[gd];exact of_decide_eq_false b1)
    simp only[go_sem,seval,reduceCtorEq,b1,e2]
    (refine FnEnd.mk (nb rfl) rfl (of_decide_eq_true rfl) ?_ ?_<;>try simp only[go_sem,seval,reduceCtorEq])
   ·simp(disch:=omega) only[go_sem,seval,reduceCtorEq,b1]
    (refine NextI.drop (mkB 40 1097364144272) (by omega) (AW hlt hiq (of_decide_eq_true b1)) (h1:= ?_) (h2:= ?_)<;>first | (simp only[go_sem,seval,reduceCtorEq,nz,na,n1];first | done | rfl) | rfl | skip)
  ·have d1:¬ (q:Int)<t.data.length:=by omega
   obtain rfl:q=t.data.length:=by omega
   have e2:T=true:=by rw[e];exact sj hiq
   simp(disch:=omega) only[go_sem,seval,reduceCtorEq,d1,e2]
   (refine FnEnd.mk (nb rfl) rfl (of_decide_eq_true rfl) ?_ ?_<;>try simp only[go_sem,seval,reduceCtorEq])
 ·have c2:((t.data.length:Int) !=be t.labels t.dims*ar ⟨k,p,n⟩)=true:=by simp [h2]
  have e:T=false:=by rw[← hT,hr,decide_eq_false fun h=>h2 h.2];rfl
  simp only[go_sem,seval,reduceCtorEq,hwr,c2,e]
  (refine FnEnd.mk (nb rfl) rfl (of_decide_eq_true rfl) ?_ ?_<;>try simp only[go_sem,seval,reduceCtorEq])
theorem jP {ds is:List Int} (hd:Sz 1099511627776 ds) (hi:Sz 1099511627776 is) (hok:oC ds is) (hdm:∀ d∈ds,1≤d∧d≤8) (hp:ab ds≤4096):Does Tryz.prog 84 [.d (ints ds),.d (ints is)] [] (.d (.int (offs ds is))) []:=
 Does.of_calls (DV _) fun w γ φ vals hv=>by
  obtain⟨_,_,rfl,h0,h1⟩:=rel2 hv
  obtain⟨A,c,rfl,o⟩:=uA h0 hd
  obtain⟨A',c',rfl,o'⟩:=uA h1 hi
  exact(v5 o o' hok hdm hp).mono fun e w' ⟨h,h'⟩=>⟨h,h' ▸ Below.refl _ _⟩
theorem cz {xs:List Int} (h:xs.length≤1099511627776):Does Tryz.prog 72 [.d (ints xs)] [] (.own 0 0 xs.length) [some ⟨1,true,iv xs⟩]:=by
 refine spec_of (by kernel_rfl) Tryz.func72 oZ (fnOk (nb rfl) ?_)
 unfold C_impl_copyInts ints
 simp only[go_sem,seval,cW,List.replicate]
 refine⟨by omega, ?_⟩
 (refine FnEnd.mk (nb rfl) rfl (of_decide_eq_true rfl) ?_ ?_<;>try simp only[go_sem,seval,reduceCtorEq])
theorem ep {x wd:Nat} {l:List Int} (hx:x*wd+wd≤l.length):((l.drop (x*wd)).take wd).length=wd:=by simp;omega
theorem kx {x wd:Nat} {kk pp nn:Int} {t:Ten} (hw:ar ⟨kk,pp,nn⟩=(wd:Int)) (h1:wd≤6) (hx:x*wd+wd≤t.data.length) (hx2:x≤1099511627776) (h:t.data.length≤1099511627776):
  Does Tryz.prog 44 [bn kk pp nn,tenA t,.d (.int x)] [] (.d (ints ((t.data.drop (x*wd)).take wd))) []:=by
 refine spec_of (by kernel_rfl) Tryz.func44 jV (fnOk (nb rfl) ?_)
 unfold C_impl_rawElem
 simp only[go_sem,seval,cW,List.replicate]
 (refine aa (eZ kk pp nn) ?_ ?_ ?_;(focus (simp only[go_sem,seval,reduceCtorEq];done));(first | rfl | (focus (simp only[go_sem];done))))
 have e1:(x:Int)*wd=(x*wd:Nat):=by push_cast;rfl
 have e2:((x:Int)+1)*wd=(x*wd+wd:Nat):=by push_cast;rw[Int.add_mul,Int.one_mul]
 have e3:(((x*wd+wd:Nat):Int)-(x*wd:Nat)).toNat=wd:=by omega
 simp(disch:=omega) only[go_sem,seval,cW,hw,e1,e2,e3]
 refine⟨⟨by omega,by omega⟩, ?_⟩
 refine FnEnd.mk (nb rfl) rfl (of_decide_eq_true rfl) ?_ rfl
 simp only[go_sem,seval,reduceCtorEq,ep hx]
theorem qe {x wd:Nat} {kk pp nn:Int} {t:Ten} (hw:ar ⟨kk,pp,nn⟩=(wd:Int)) (h1:wd≤6) (hx:x*wd+wd≤t.data.length) (hx2:x≤1099511627776) (h:t.data.length≤1099511627776):
  Does Tryz.prog 83 [bn kk pp nn,tenA t,.d (.int x)] [] (.own 0 0 wd) [some ⟨1,true,iv ((t.data.drop (x*wd)).take wd)⟩]:=by
 refine spec_of (by kernel_rfl) Tryz.func83 rf (fnOk (nb rfl) ?_)
 unfold C_spec_l05Get
 simp only[go_sem,seval,cW,List.replicate]
 (refine aa (fj kk pp nn) ?_ ?_ ?_;(focus (simp only[go_sem,seval,reduceCtorEq];done));(first | rfl | (focus (simp only[go_sem];done))))
 have e1:(x:Int)*wd=(x*wd:Nat):=by push_cast;rfl
 have e2:((x*wd:Nat):Int)+wd=(x*wd+wd:Nat):=by push_cast;rfl
 have e3:(((x*wd+wd:Nat):Int)-(x*wd:Nat)).toNat=wd:=by omega
 simp(disch:=omega) only[go_sem,seval,cW,hw,e1,e2,e3,ep hx]
 refine⟨by omega,by omega, ?_⟩
 (refine FnEnd.mk (nb rfl) rfl (of_decide_eq_true rfl) ?_ ?_<;>try simp only[go_sem,seval,reduceCtorEq])
 rw[List.take_take,Nat.min_self]
theorem cQ {r:Rg} {ls ds xs:List Int} (h:aA r ls ds xs=true):aq r=true∧axOk ls ds∧ab ds≤4096∧1≤ab ds∧be ls ds=ab ds∧(xs.length:Int)=ab ds*ar r:=by
 simp only[aA,Bool.and_eq_true,decide_eq_true_eq]at h
 obtain⟨⟨h1,h2,h3⟩,h4⟩:=h
 rcases d9 ls ds with h5 | ⟨h5,h6,h7,h8⟩
 ·exact absurd h5 h2
 ·exact⟨h1,h5,h6,h8,h7,by rw[h3,h7]⟩
set_option maxRecDepth 100000
theorem kp {t:Ten} {x:Int} (h:t.labels.length≤1099511627776):Does Tryz.prog 113 [tenA t,.d (.int x)] [] (.d (.int (place t.labels x))) []:=by
 (refine spec_of (by kernel_rfl) Tryz.func113 ru (fnOk (nb rfl) ?_);unfold C_impl_axisOf)
 (simp only[Nat.reduceSub,List.length_cons,List.length_nil,Nat.reduceAdd,am,al,aj,ai,ah,af,ae,ac];try simp only[au]);(simp only[go_sem,seval,reduceCtorEq,List.replicate])
 refine i9 (t.labels.length) (fun k=>x∉t.labels.take k) (fun k=>(ch (.any) (.d (.int x)) (.any) (.any) (.any) (.any) (.any) (.any) (.d (ints t.labels)) (.d (.int t.labels.length)) (.d (.int k)) (.any) (.any) (.any) (.any) (.any) [.any,.any,.any,.any])) (fun k=>[]) (by simp) (Wk.kept' [1,8,9,10] 0 (nb rfl) (by first | rfl | simp only[go_sem,seval,reduceCtorEq,bX,aW,aV,bD,cg,cut,List.contains_cons,List.contains_nil,Nat.reduceBEq,Int.natCast_zero,Int.natCast_add,Int.natCast_one]) (by first | rfl | simp only[go_sem,seval,reduceCtorEq,bX,aW,aV,bD,cg,cut,List.contains_cons,List.contains_nil,Nat.reduceBEq,Int.natCast_zero,Int.natCast_add,Int.natCast_one])) fun k hk hi=> ?_
 unfold L0_impl_axisOf
 by_cases hlt:k<t.labels.length
 ·have h1:(k:Int)<t.labels.length:=by omega
  have hx:t.labels[k]? =some t.labels[k]:=List.getElem?_eq_getElem hlt
  by_cases he:t.labels[k]=x
  ·have he':(t.labels[k]==x)=true:=by simp [he]
   have e:place t.labels x=k:=by rw[← he];exact dD hlt (by rw[he];exact hi)
   simp(disch:=omega) only[go_sem,seval,reduceCtorEq,h1,hx,he',e]
   (refine FnEnd.mk (nb rfl) rfl (of_decide_eq_true rfl) ?_ ?_<;>try simp only[go_sem,seval,reduceCtorEq])
  ·have he':(t.labels[k]==x)=false:=by simp [he]
   simp(disch:=omega) only[go_sem,seval,reduceCtorEq,h1,hx,he']
   (refine NextI.mk hlt (iZ hlt hi (fun e=>he e.symm)) (Wk.kept' [1,8,9,10] 0 (nb rfl) ?_ ?_)<;>first | rfl | (simp only[go_sem,seval,reduceCtorEq,bX,aW,aV,bD,cg,cut,List.contains_cons,List.contains_nil,Nat.reduceBEq,Int.natCast_zero,Int.natCast_add,Int.natCast_one];done) | skip)
 ·have h1:¬ (k:Int)<t.labels.length:=by omega
  have e:place t.labels x= -1:=gf (by rw[List.take_of_length_le (by omega)]at hi;exact hi)
  simp(disch:=omega) only[go_sem,seval,reduceCtorEq,h1,e]
  (refine FnEnd.mk (nb rfl) rfl (of_decide_eq_true rfl) ?_ ?_<;>try simp only[go_sem,seval,reduceCtorEq])
theorem jI {ds:List Int} (h:ds.length≤1099511627776) (hd:∀ d∈ds,1≤d) (hp:ab ds≤1152921504606846976):Does Tryz.prog 42 [.d (ints ds)] [] (.d (.int (ab ds))) []:=by
 (refine spec_of (by kernel_rfl) Tryz.func42 nK (fnOk (nb rfl) ?_);unfold C_impl_productOf)
 (simp only[Nat.reduceSub,List.length_cons,List.length_nil,Nat.reduceAdd,am,al,aj,ai,ah,af,ae,ac];try simp only[au]);(simp only[go_sem,seval,reduceCtorEq,List.replicate])
 refine ic (ds.length) (fun k=>(ch (.any) (.any) (.any) (.d (.int (ab (ds.take k)))) (.any) (.any) (.d (ints ds)) (.d (.int ds.length)) (.d (.int k)) (.any) (.any) (.any) (.any) (.any) (.any) (.any) [.any])) (fun k=>[]) (Wk.kept' [3,6,7,8] 0 (nb rfl) (by first | rfl | simp only[go_sem,seval,reduceCtorEq,bX,aW,aV,bD,cg,cut,List.contains_cons,List.contains_nil,Nat.reduceBEq,Int.natCast_zero,Int.natCast_add,Int.natCast_one]) (by first | rfl | simp only[go_sem,seval,reduceCtorEq,bX,aW,aV,bD,cg,cut,List.contains_cons,List.contains_nil,Nat.reduceBEq,Int.natCast_zero,Int.natCast_add,Int.natCast_one])) fun k hk=> ?_
 unfold L0_impl_productOf
 by_cases hlt:k<ds.length
 ·have h1:(k:Int)<ds.length:=by omega
  have hx:ds[k]? =some ds[k]:=List.getElem?_eq_getElem hlt
  have e:=di ds k hlt
  rw[ao hlt]at e
  have b1:=bi (ds.take (k+1)) (fun d hd'=>hd d (List.mem_of_mem_take hd'))
  have b2:=i6 ds (k+1) hd
  simp(disch:=omega) only[go_sem,seval,reduceCtorEq,h1,hx, ← e]
  (refine Next.mk hlt (Wk.kept' [3,6,7,8] 0 (nb rfl) ?_ ?_)<;>first | rfl | (simp only[go_sem,seval,reduceCtorEq,bX,aW,aV,bD,cg,cut,List.contains_cons,List.contains_nil,Nat.reduceBEq,Int.natCast_zero,Int.natCast_add,Int.natCast_one];done) | skip)
 ·have h1:¬ (k:Int)<ds.length:=by omega
  simp(disch:=omega) only[go_sem,seval,reduceCtorEq,h1]
  (refine FnEnd.mk (nb rfl) rfl (of_decide_eq_true rfl) ?_ ?_<;>try simp only[go_sem,seval,reduceCtorEq])
  rw[List.take_of_length_le (by omega)]
end Go.Proofs.YtneocijmbnhblaaGreat
