/-
 Contracts: lists searched, products, sizes of tensors, tensors that are right. No condition.
-/
import Derived.Test.YtjfmckhbmdjnpaaGreatRng
import Derived.Test.YtjfmckhbmdjnpaaGreatLift28
set_option linter.unusedSimpArgs false
set_option linter.unusedVariables false
namespace Go.Proofs.YtjfmckhbmdjnpaaGreat
open Go.RowKit Go.Lift Plain
set_option maxRecDepth 100000
theorem cm {xs:List Int} {x:Int} (h:xs.length≤1099511627776):Does Tryz.prog 57 [.d (ints xs),.d (.int x)] [] (.d (.bool (has xs x))) []:=by
 (refine spec_of (by kernel_rfl) Tryz.func57 vH (fnOk (nb rfl) ?_);unfold pc)
 (simp only[Nat.reduceSub,Zl,zn,Nat.reduceAdd,zF];try simp only[af]);(simp only[go_sem,seval,reduceCtorEq,List.replicate])
 refine kr (xs.length) (fun k=>x∉xs.take k) (fun k=>(ch (.any) (.d (.int x)) (.any) (.any) (.any) (.any) (.any) (.d (ints xs)) (.d (.int xs.length)) (.d (.int k)) (.any) (.any) (.any) (.any) (.any) (.any) [.any])) (fun k=>[]) (by simp) (Wk.kept' [1,7,8,9] 0 (nb rfl) (by first | rfl | simp only[go_sem,seval,reduceCtorEq,bu,aJ,aI,bg,bv,cut,List.contains_cons,List.contains_nil,Nat.reduceBEq,Int.natCast_zero,Int.natCast_add,Int.natCast_one]) (by first | rfl | simp only[go_sem,seval,reduceCtorEq,bu,aJ,aI,bg,bv,cut,List.contains_cons,List.contains_nil,Nat.reduceBEq,Int.natCast_zero,Int.natCast_add,Int.natCast_one])) fun k hk hi=> ?_
 unfold nG
 by_cases hlt:k<xs.length
 ·have h1:(k:Int)<xs.length:=by omega
  have hx:xs[k]? =some xs[k]:=zg hlt
  by_cases he:x=xs[k]
  ·have he':(x==xs[k])=true:=by simp [he]
   have e:has xs x=true:=az.2 (by rw[he];exact List.getElem_mem _)
   simp(disch:=omega) only[go_sem,seval,reduceCtorEq,h1,hx,he',e]
   (refine zE ?_ ?_<;>try simp only[go_sem,seval,reduceCtorEq])
  ·have he':(x==xs[k])=false:=by simp [he]
   simp(disch:=omega) only[go_sem,seval,reduceCtorEq,h1,hx,he']
   (refine NextI.mk hlt (lp hlt hi he) (Wk.kept' [1,7,8,9] 0 (nb rfl) ?_ ?_)<;>first | rfl | (simp only[go_sem,seval,reduceCtorEq,bu,aJ,aI,bg,bv,cut,List.contains_cons,List.contains_nil,Nat.reduceBEq,Int.natCast_zero,Int.natCast_add,Int.natCast_one];done) | skip)
 ·have h1:¬ (k:Int)<xs.length:=by omega
  have e:has xs x=false:=aT.2 (by rw[zt (by omega)]at hi;exact hi)
  simp(disch:=omega) only[go_sem,seval,reduceCtorEq,h1,e]
  (refine zE ?_ ?_<;>try simp only[go_sem,seval,reduceCtorEq])
theorem gr {xs:List Int} {x:Int} (h:xs.length≤1099511627776):Does Tryz.prog 94 [.d (ints xs),.d (.int x)] [] (.d (.int (bR xs x))) []:=by
 (refine spec_of (by kernel_rfl) Tryz.func94 un (fnOk (nb rfl) ?_);unfold nN)
 (simp only[Nat.reduceSub,Zl,zn,Nat.reduceAdd,zF];try simp only[af]);(simp only[go_sem,seval,reduceCtorEq,List.replicate])
 refine kr (xs.length) (fun k=>x∉xs.take k) (fun k=>(ch (.any) (.d (.int x)) (.any) (.any) (.any) (.any) (.any) (.d (ints xs)) (.d (.int xs.length)) (.d (.int k)) (.any) (.any) (.any) (.any) (.any) (.any) [.any,.any,.any])) (fun k=>[]) (by simp) (Wk.kept' [1,7,8,9] 0 (nb rfl) (by first | rfl | simp only[go_sem,seval,reduceCtorEq,bu,aJ,aI,bg,bv,cut,List.contains_cons,List.contains_nil,Nat.reduceBEq,Int.natCast_zero,Int.natCast_add,Int.natCast_one]) (by first | rfl | simp only[go_sem,seval,reduceCtorEq,bu,aJ,aI,bg,bv,cut,List.contains_cons,List.contains_nil,Nat.reduceBEq,Int.natCast_zero,Int.natCast_add,Int.natCast_one])) fun k hk hi=> ?_
 unfold m9
 by_cases hlt:k<xs.length
 ·have h1:(k:Int)<xs.length:=by omega
  have hx:xs[k]? =some xs[k]:=zg hlt
  by_cases he:xs[k]=x
  ·have he':(xs[k]==x)=true:=by simp [he]
   have e:bR xs x=k:=by rw[← he];exact gK hlt (by rw[he];exact hi)
   simp(disch:=omega) only[go_sem,seval,reduceCtorEq,h1,hx,he',e]
   (refine zE ?_ ?_<;>try simp only[go_sem,seval,reduceCtorEq])
  ·have he':(xs[k]==x)=false:=by simp [he]
   simp(disch:=omega) only[go_sem,seval,reduceCtorEq,h1,hx,he']
   (refine NextI.mk hlt (lp hlt hi (fun e=>he e.symm)) (Wk.kept' [1,7,8,9] 0 (nb rfl) ?_ ?_)<;>first | rfl | (simp only[go_sem,seval,reduceCtorEq,bu,aJ,aI,bg,bv,cut,List.contains_cons,List.contains_nil,Nat.reduceBEq,Int.natCast_zero,Int.natCast_add,Int.natCast_one];done) | skip)
 ·have h1:¬ (k:Int)<xs.length:=by omega
  have e:bR xs x= -1:=gJ (by rw[zt (by omega)]at hi;exact hi)
  simp(disch:=omega) only[go_sem,seval,reduceCtorEq,h1,e]
  (refine zE ?_ ?_<;>try simp only[go_sem,seval,reduceCtorEq])
theorem gf {ds:List Int} {lim:Int} (h:ds.length≤1099511627776) (hd:∀ d∈ds,1≤d∧d≤100) (hl:1≤lim∧lim≤1000000000):Does Tryz.prog 91 [.d (ints ds),.d (.int lim)] [] (.d (.int (min (aa ds) (lim+1)))) []:=by
 (refine spec_of (by kernel_rfl) Tryz.func91 qk (fnOk (nb rfl) ?_);unfold jy)
 (simp only[Nat.reduceSub,Zl,zn,Nat.reduceAdd,zF];try simp only[af]);(simp only[go_sem,seval,reduceCtorEq,List.replicate])
 have e0:min (aa []) (lim+1)=1:=by rw[w5];omega
 refine gE (ds.length) (fun k=>(ch (.any) (.d (.int lim)) (.any) (.any) (.any) (.d (.int (min (aa (ds.take k)) (lim+1)))) (.any) (.any) (.d (ints ds)) (.d (.int ds.length)) (.d (.int k)) (.any) (.any) (.any) (.any) (.any) [.any,.any,.any,.any,.any,.any])) (fun k=>[]) (Wk.kept' [1,5,8,9,10] 0 (nb rfl) (by first | rfl | simp only[go_sem,seval,reduceCtorEq,bu,aJ,aI,bg,bv,cut,List.contains_cons,List.contains_nil,Nat.reduceBEq,Int.natCast_zero,Int.natCast_add,Int.natCast_one,e0]) (by first | rfl | simp only[go_sem,seval,reduceCtorEq,bu,aJ,aI,bg,bv,cut,List.contains_cons,List.contains_nil,Nat.reduceBEq,Int.natCast_zero,Int.natCast_add,Int.natCast_one,e0])) fun k hk=> ?_
 unfold i8
 by_cases hlt:k<ds.length
 ·have h1:(k:Int)<ds.length:=by omega
  have hx:ds[k]? =some ds[k]:=zg hlt
  have e:=cZ ds k hlt
  rw[ab hlt]at e
  have hb:=hd ds[k] (List.getElem_mem _)
  have b1:=aW (ds.take k) (fun d hd'=>(hd d (List.mem_of_mem_take hd')).1)
  have e2:=GE (aa (ds.take k)) ds[k] (lim+1) hb.1 (by omega)
  rw[← e]at e2
  have b3:0≤min (aa (ds.take k)) (lim+1)*ds[k]:=Int.mul_nonneg (by omega) (by omega)
  have b4:min (aa (ds.take k)) (lim+1)*ds[k]≤(lim+1)*100:=Int.mul_le_mul (by omega) hb.2 (by omega) (by omega)
  simp(disch:=omega) only[go_sem,seval,reduceCtorEq,h1,hx]
  (refine Next.mk hlt (Wk.kept' [1,5,8,9,10] 0 (nb rfl) ?_ ?_)<;>first | rfl | (simp only[go_sem,seval,reduceCtorEq,bu,aJ,aI,bg,bv,cut,List.contains_cons,List.contains_nil,Nat.reduceBEq,Int.natCast_zero,Int.natCast_add,Int.natCast_one,e2];done) | skip)
 ·have h1:¬ (k:Int)<ds.length:=by omega
  simp(disch:=omega) only[go_sem,seval,reduceCtorEq,h1]
  (refine zE ?_ ?_<;>try simp only[go_sem,seval,reduceCtorEq])
  rw[zt (by omega)]
theorem BG {ls ds:List Int} {k:Nat} (h1:k<ls.length) (h2:k<ds.length) (h:¬ (0≤ls[k]∧ls[k]≤99∧1≤ds[k]∧ds[k]≤8∧ls[k]∉ls.take k)):¬ axAt ls ds k:=by
 unfold axAt
 rw[ab h1,ab h2]
 exact h
set_option maxHeartbeats 1600000 in
theorem ko {t:Ten} (h:TSz 1099511627776 t):Does Tryz.prog 39 [tenA t] [] (.d (.int (aU t.labels t.dims))) []:=by
 obtain⟨ls,ds,xs⟩:=t
 generalize hT:aU ls ds=T
 (refine spec_of (by kernel_rfl) Tryz.func39 qw (fnOk (nb rfl) ?_);unfold ke)
 unfold tenA
 simp only
 (simp only[Nat.reduceSub,Zl,zn,Nat.reduceAdd,zF];try simp only[af]);(simp only[go_sem,seval,reduceCtorEq,List.replicate])
 by_cases a1:(ls.length:Int)>12
 ·have e:=tG (ls:=ls) (ds:=ds) (by omega)
  rw[hT]at e
  simp only[go_sem,seval,reduceCtorEq,a1,e]
  (refine zE ?_ ?_<;>try simp only[go_sem,seval,reduceCtorEq])
 by_cases a2:ls.length=ds.length
 rotate_left
 ·have e:=zU a2
  rw[hT]at e
  have c:((ls.length:Int) !=ds.length)=true:=by simp;omega
  simp only[go_sem,seval,reduceCtorEq,a1,c,e]
  (refine zE ?_ ?_<;>try simp only[go_sem,seval,reduceCtorEq])
 have c:((ls.length:Int) !=ds.length)=false:=by simp;omega
 simp only[go_sem,seval,reduceCtorEq,a1,c]
 have p0:aa (ds.take 0)=1:=rfl
 have hI0:(∀ j,j<0→axAt ls ds j)∧aa (ds.take 0)≤4096∧1≤aa (ds.take 0):=⟨fun j hj=>absurd hj (Nat.not_lt_zero j),by rw[p0];omega,by rw[p0];omega⟩
 refine bV (ls.length) (mkB 64 9223372036837998708) (fun k=>(∀ j,j<k→axAt ls ds j)∧aa (ds.take k)≤4096∧1≤aa (ds.take k)) (fun k=>[(3,.d (.int (aa (ds.take k)))),(23,.d (.int k))]) (fun k=>[]) (hi:=hI0) (h1:=by first | (simp only[go_sem,seval,reduceCtorEq,nz,na,n1,p0];first | done | rfl) | rfl) (h2:=by first | (simp only[go_sem,seval,reduceCtorEq,nz,na,n1,p0];first | done | rfl) | rfl) (hr:=fun k hk hi=> ?_)
 unfold iq
 obtain⟨i1,i2,i3⟩:=hi
 by_cases hlt:k<ls.length
 ·have d1:(k:Int)<ls.length:=by omega
  have hk:k<ds.length:=by omega
  have g1:ls[k]? =some ls[k]:=zg hlt
  have g2:ds[k]? =some ds[k]:=zg hk
  have htk:(ls.take k).length=k:=by rw[List.length_take];omega
  have bad:¬ (0≤ls[k]∧ls[k]≤99∧1≤ds[k]∧ds[k]≤8∧ls[k]∉ls.take k)→T= -1:=fun hb=>by rw[← hT];exact y4 k hlt (BG hlt hk hb)
  simp(disch:=omega) only[go_sem,seval,reduceCtorEq,d1,g1,Option.map_some]
  by_cases b1:ls[k]<0
  ·simp only[go_sem,seval,reduceCtorEq,b1,bad (by omega)]
   (refine zE ?_ ?_<;>try simp only[go_sem,seval,reduceCtorEq])
  by_cases b2:ls[k]>99
  ·simp only[go_sem,seval,reduceCtorEq,b1,b2,bad (by omega)]
   (refine zE ?_ ?_<;>try simp only[go_sem,seval,reduceCtorEq])
  simp(disch:=omega) only[go_sem,seval,reduceCtorEq,b1,b2]
  (repeat (refine And.intro (by omega) ?_))
  (refine aV (cm (xs:=ls.take k) (x:=ls[k]) (by omega)) ?_ ?_ ?_;(focus (simp only[go_sem,seval,reduceCtorEq,htk,Int.sub_zero];done));(first | rfl | (focus (simp only[go_sem];done))))
  cases b3:has (ls.take k) ls[k]
  rotate_left
  ·simp only[go_sem,seval,reduceCtorEq,b3,bad (fun h=>h.2.2.2.2 (az.1 b3))]
   (refine zE ?_ ?_<;>try simp only[go_sem,seval,reduceCtorEq])
  simp(disch:=omega) only[go_sem,seval,reduceCtorEq,b3,g2,Option.map_some]
  (repeat (refine And.intro (by omega) ?_))
  by_cases b4:ds[k]<1
  ·simp(disch:=omega) only[go_sem,seval,reduceCtorEq,b4,bad (by omega)]
   (refine zE ?_ ?_<;>try simp only[go_sem,seval,reduceCtorEq])
  by_cases b5:ds[k]>8
  ·simp(disch:=omega) only[go_sem,seval,reduceCtorEq,b4,b5,bad (by omega)]
   (refine zE ?_ ?_<;>try simp only[go_sem,seval,reduceCtorEq])
  have hpb:1*1≤aa (ds.take k)*ds[k]:=Int.mul_le_mul i3 (by omega) (by omega) (by omega)
  have hpc:aa (ds.take k)*ds[k]≤4096*8:=Int.mul_le_mul i2 (by omega) (by omega) (by omega)
  have hw:IntKind.i64.wrap (aa (ds.take k)*ds[k])=aa (ds.take k)*ds[k]:=IntWalk.i64_in _ (by omega)
  have hps:aa (ds.take (k+1))=aa (ds.take k)*ds[k]:=by rw[cZ ds k hk,ab hk]
  by_cases b6:aa (ds.take k)*ds[k]>4096
  ·have e:T= -1:=by rw[← hT];exact BS k hlt a2 (by rw[ab hk];omega)
   simp(disch:=omega) only[go_sem,seval,reduceCtorEq,b4,b5,hw,b6,e]
   (refine zE ?_ ?_<;>try simp only[go_sem,seval,reduceCtorEq])
  ·have hI:(∀ j,j<k+1→axAt ls ds j)∧aa (ds.take (k+1))≤4096∧1≤aa (ds.take (k+1)):=by
    refine⟨fun j hj=> ?_,by rw[hps];omega,by rw[hps];omega⟩
    by_cases e:j=k
    ·subst e
     unfold axAt
     rw[ab hlt,ab hk]
     exact⟨by omega,by omega,by omega,by omega,aT.1 b3⟩
    ·exact i1 j (by omega)
   simp(disch:=omega) only[go_sem,seval,reduceCtorEq,b4,b5,hw,b6]
   (refine NextI.drop (mkB 64 9223372036837998708) (by omega) (hI) (h1:= ?_) (h2:= ?_)<;>first | (simp only[go_sem,seval,reduceCtorEq,nz,na,n1,hps];first | done | rfl) | rfl | skip)
 ·have d1:¬ (k:Int)<ls.length:=by omega
  obtain rfl:k=ls.length:=by omega
  have htl:ds.take ls.length=ds:=zt (by omega)
  rw[htl]at i2
  have e:=zV (by omega) a2 i1 i2
  rw[hT]at e
  simp(disch:=omega) only[go_sem,seval,reduceCtorEq,d1,htl,e]
  (refine zE ?_ ?_<;>try simp only[go_sem,seval,reduceCtorEq])
theorem CF {ls ds:List Int} (h:ls.length≤1099511627776) (h2:ds.length≤1099511627776):Does Tryz.prog 133 [.d (ints ls),.d (ints ds)] [] (.d (.bool (decide (axOk ls ds)))) []:=by
 generalize hT:decide (axOk ls ds)=T
 (refine spec_of (by kernel_rfl) Tryz.func133 ur (fnOk (nb rfl) ?_);unfold nQ)
 (simp only[Nat.reduceSub,Zl,zn,Nat.reduceAdd,zF];try simp only[af]);(simp only[go_sem,seval,reduceCtorEq,List.replicate])
 by_cases a1:(ls.length:Int)>12
 ·have e:T=false:=by rw[← hT];exact decide_eq_false fun h=>by have:=h.1;omega
  simp only[go_sem,seval,reduceCtorEq,a1,e]
  (refine zE ?_ ?_<;>try simp only[go_sem,seval,reduceCtorEq])
 by_cases a2:ls.length=ds.length
 rotate_left
 ·have e:T=false:=by rw[← hT];exact decide_eq_false fun h=>a2 h.2.1
  have c:((ls.length:Int) !=ds.length)=true:=by simp;omega
  simp only[go_sem,seval,reduceCtorEq,a1,c,e]
  (refine zE ?_ ?_<;>try simp only[go_sem,seval,reduceCtorEq])
 have c:((ls.length:Int) !=ds.length)=false:=by simp;omega
 simp only[go_sem,seval,reduceCtorEq,a1,c]
 refine bV (ls.length) (mkB 44 17592184995952) (fun k=>∀ j,j<k→axAt ls ds j) (fun k=>[(19,.d (.int k))]) (fun k=>[]) (hi:=fun j hj=>absurd hj (Nat.not_lt_zero j)) (h1:=by first | (simp only[go_sem,seval,reduceCtorEq,nz,na,n1];first | done | rfl) | rfl) (h2:=by first | (simp only[go_sem,seval,reduceCtorEq,nz,na,n1];first | done | rfl) | rfl) (hr:=fun k hk hi=> ?_)
 unfold me
 by_cases hlt:k<ls.length
 ·have d1:(k:Int)<ls.length:=by omega
  have hk:k<ds.length:=by omega
  have g1:ls[k]? =some ls[k]:=zg hlt
  have g2:ds[k]? =some ds[k]:=zg hk
  have htk:(ls.take k).length=k:=by rw[List.length_take];omega
  have bad:¬ (0≤ls[k]∧ls[k]≤99∧1≤ds[k]∧ds[k]≤8∧ls[k]∉ls.take k)→T=false:=fun hb=>by rw[← hT];exact decide_eq_false fun h=>BG hlt hk hb (h.2.2 k hlt)
  simp(disch:=omega) only[go_sem,seval,reduceCtorEq,d1,g1,Option.map_some]
  (refine zC (fq ls[k] 0 99) ?_)
  cases b1:decide (0≤ls[k]∧ls[k]≤99)
  ·simp(disch:=omega) only[go_sem,seval,reduceCtorEq,b1,bad (fun h=>of_decide_eq_false b1 ⟨h.1,h.2.1⟩)]
   (refine zE ?_ ?_<;>try simp only[go_sem,seval,reduceCtorEq])
  simp(disch:=omega) only[go_sem,seval,reduceCtorEq,b1,g2,Option.map_some]
  (repeat (refine And.intro (by omega) ?_))
  (refine zC (fq ds[k] 1 8) ?_)
  cases b2:decide (1≤ds[k]∧ds[k]≤8)
  ·simp(disch:=omega) only[go_sem,seval,reduceCtorEq,b2,bad (fun h=>of_decide_eq_false b2 ⟨h.2.2.1,h.2.2.2.1⟩)]
   (refine zE ?_ ?_<;>try simp only[go_sem,seval,reduceCtorEq])
  simp(disch:=omega) only[go_sem,seval,reduceCtorEq,b2]
  (repeat (refine And.intro (by omega) ?_))
  (refine aV (gr (xs:=ls.take k) (x:=ls[k]) (by omega)) ?_ ?_ ?_;(focus (simp only[go_sem,seval,reduceCtorEq,htk,Int.sub_zero];done));(first | rfl | (focus (simp only[go_sem];done))))
  by_cases b3:ls[k]∈ls.take k
  ·have c3:bR (ls.take k) ls[k]≥0:=Int.not_lt.1 fun h=>dZ.1 h b3
   simp only[go_sem,seval,reduceCtorEq,c3,bad (fun h=>h.2.2.2.2 b3)]
   (refine zE ?_ ?_<;>try simp only[go_sem,seval,reduceCtorEq])
  ·have c3:¬ bR (ls.take k) ls[k]≥0:=Int.not_le.2 (dZ.2 b3)
   have hI:∀ j,j<k+1→axAt ls ds j:=fun j hj=>by
    by_cases e:j=k
    ·subst e
     unfold axAt
     rw[ab hlt,ab hk]
     have q1:=zd b1
     have q2:=zd b2
     exact⟨q1.1,q1.2,q2.1,q2.2,b3⟩
    ·exact hi j (by omega)
   simp(disch:=omega) only[go_sem,seval,reduceCtorEq,c3]
   (refine NextI.drop (mkB 44 17592184995952) (by omega) (hI) (h1:= ?_) (h2:= ?_)<;>first | (simp only[go_sem,seval,reduceCtorEq,nz,na,n1];first | done | rfl) | rfl | skip)
 ·have d1:¬ (k:Int)<ls.length:=by omega
  obtain rfl:k=ls.length:=by omega
  have e:T=true:=by rw[← hT];exact decide_eq_true ⟨by omega,a2,hi⟩
  simp(disch:=omega) only[go_sem,seval,reduceCtorEq,d1,e]
  (refine zE ?_ ?_<;>try simp only[go_sem,seval,reduceCtorEq])
theorem oL {t:Ten} (h:TSz 1099511627776 t):Does Tryz.prog 120 [tenA t] [] (.d (.int (aU t.labels t.dims))) []:=by
 have hl:=h.l.len
 have hd:=h.d.len
 obtain⟨ls,ds,xs⟩:=t
 simp only at hl hd ⊢
 generalize hT:aU ls ds=T
 (refine spec_of (by kernel_rfl) Tryz.func120 ql (fnOk (nb rfl) ?_);unfold jC)
 unfold tenA
 simp only
 (simp only[Nat.reduceSub,Zl,zn,Nat.reduceAdd,zF];try simp only[af]);(simp only[go_sem,seval,reduceCtorEq,List.replicate])
 (refine zC (CF (ls:=ls) (ds:=ds) hl hd) ?_)
 cases a1:decide (axOk ls ds)
 ·have e:T= -1:=by rw[← hT];exact if_neg fun h=>of_decide_eq_false a1 h.1
  simp only[go_sem,seval,reduceCtorEq,a1,e]
  (refine zE ?_ ?_<;>try simp only[go_sem,seval,reduceCtorEq])
 have ax:=zd a1
 simp only[go_sem,seval,reduceCtorEq,a1]
 (refine zC (gf (ds:=ds) (lim:=4096) hd (fun d hd=>by have:=ax.dim d hd;omega) (by omega)) ?_)
 by_cases b:min (aa ds) (4097)>4096
 ·have e:T= -1:=by rw[← hT];exact if_neg fun h=>by have:=h.2;omega
  simp only[go_sem,seval,reduceCtorEq,b,e]
  (refine zE ?_ ?_<;>try simp only[go_sem,seval,reduceCtorEq])
 ·have e:T=min (aa ds) (4097):=by rw[← hT,aU,if_pos ⟨ax,by omega⟩];omega
  simp only[go_sem,seval,reduceCtorEq,b,e]
  (refine zE ?_ ?_<;>try simp only[go_sem,seval,reduceCtorEq])
set_option maxRecDepth 100000
theorem F9 {r:Rg} {xs:List Int} {k:Nat} (hk:k<xs.length) (h:∀ j,j<k→0≤xs.getD j 0∧xs.getD j 0≤top r) (h2:0≤xs[k]∧xs[k]≤top r):∀ j,j<k+1→0≤xs.getD j 0∧xs.getD j 0≤top r:=fun j hj=>by
 by_cases e:j=k
 ·subst e;rw[ab hk];exact h2
 ·exact h j (by omega)
theorem EM {k p n:Int} {xs:List Int} (hr:ae ⟨k,p,n⟩=true) (h:Sz 1099511627776 xs):Does Tryz.prog 113 [bm k p n,.d (ints xs)] [] (.d (.bool (m4 ⟨k,p,n⟩ xs))) []:=by
 have hl:=h.len
 generalize hT:m4 ⟨k,p,n⟩ xs=T
 (refine spec_of (by kernel_rfl) Tryz.func113 vG (fnOk (nb rfl) ?_);unfold p9)
 (simp only[Nat.reduceSub,Zl,zn,Nat.reduceAdd,zF];try simp only[af]);(simp only[go_sem,seval,reduceCtorEq,List.replicate])
 (refine zC (yv k p n hr) ?_)
 simp only[go_sem,seval,reduceCtorEq]
 refine bV (xs.length) (mkB 24 16769168) (fun q=>∀ j,j<q→0≤xs.getD j 0∧xs.getD j 0≤top ⟨k,p,n⟩) (fun q=>[(12,.d (.int q))]) (fun q=>[]) (hi:=fun j hj=>absurd hj (Nat.not_lt_zero j)) (h1:=by first | (simp only[go_sem,seval,reduceCtorEq,nz,na,n1];first | done | rfl) | rfl) (h2:=by first | (simp only[go_sem,seval,reduceCtorEq,nz,na,n1];first | done | rfl) | rfl) (hr:=fun q hq hiq=> ?_)
 unfold nF
 by_cases hlt:q<xs.length
 ·have d1:(q:Int)<xs.length:=by omega
  have g1:xs[q]? =some xs[q]:=zg hlt
  have gd:=ab hlt
  simp(disch:=omega) only[go_sem,seval,reduceCtorEq,d1,g1,Option.map_some]
  by_cases b1:xs[q]<0
  ·have e:T=false:=by rw[← hT];exact uQ q hlt (by rw[gd];omega)
   simp only[go_sem,seval,reduceCtorEq,b1,e]
   (refine zE ?_ ?_<;>try simp only[go_sem,seval,reduceCtorEq])
  by_cases b2:xs[q]>top ⟨k,p,n⟩
  ·have e:T=false:=by rw[← hT];exact uQ q hlt (by rw[gd];omega)
   simp only[go_sem,seval,reduceCtorEq,b1,b2,e]
   (refine zE ?_ ?_<;>try simp only[go_sem,seval,reduceCtorEq])
  simp(disch:=omega) only[go_sem,seval,reduceCtorEq,b1,b2]
  (refine NextI.drop (mkB 24 16769168) (by omega) (F9 hlt hiq ⟨by omega,by omega⟩) (h1:= ?_) (h2:= ?_)<;>first | (simp only[go_sem,seval,reduceCtorEq,nz,na,n1];first | done | rfl) | rfl | skip)
 ·have d1:¬ (q:Int)<xs.length:=by omega
  obtain rfl:q=xs.length:=by omega
  have e:T=true:=by rw[← hT];exact wF hiq
  simp(disch:=omega) only[go_sem,seval,reduceCtorEq,d1,e]
  (refine zE ?_ ?_<;>try simp only[go_sem,seval,reduceCtorEq])
theorem eg {k p n:Int} {t:Ten} (a:I64 k) (b:I64 p) (c:I64 n) (h:TSz 1099511627776 t):Does Tryz.prog 73 [bm k p n,tenA t] [] (.d (.bool (aD ⟨k,p,n⟩ t.labels t.dims t.data))) []:=by
 have hx:=h.x
 have hxl:=hx.len
 have hsz:=ko h
 have htc:=cQ t.labels t.dims
 generalize hT:aD ⟨k,p,n⟩ t.labels t.dims t.data=T
 unfold aD at hT
 (refine spec_of (by kernel_rfl) Tryz.func73 sQ (fnOk (nb rfl) ?_);unfold mz)
 unfold tenA at hsz ⊢
 (simp only[Nat.reduceSub,Zl,zn,Nat.reduceAdd,zF];try simp only[af]);(simp only[go_sem,seval,reduceCtorEq,List.replicate])
 (refine zC (wy k p n) ?_)
 cases hr:ae ⟨k,p,n⟩
 ·have e:T=false:=by rw[← hT,hr];rfl
  simp only[go_sem,seval,reduceCtorEq,hr,e]
  (refine zE ?_ ?_<;>try simp only[go_sem,seval,reduceCtorEq])
 have hw:=ci hr
 simp only[go_sem,seval,reduceCtorEq,hr]
 (refine zC (hsz) ?_)
 simp only[go_sem,seval,reduceCtorEq]
 by_cases h1:aU t.labels t.dims= -1
 ·have e:T=false:=by rw[← hT,hr,decide_eq_false fun h=>h.1 h1];rfl
  have c1:(aU t.labels t.dims != -1)=false:=by simp [h1]
  simp only[go_sem,seval,reduceCtorEq,c1,e]
  (refine zE ?_ ?_<;>try simp only[go_sem,seval,reduceCtorEq])
 have c1:(aU t.labels t.dims != -1)=true:=by simp [h1]
 have hb:1≤aU t.labels t.dims∧aU t.labels t.dims≤4096:=by rcases htc with e | e;exact absurd e h1;omega
 have hm1:1*1≤aU t.labels t.dims*ah ⟨k,p,n⟩:=Int.mul_le_mul hb.1 hw.1 (by omega) (by omega)
 have hm2:aU t.labels t.dims*ah ⟨k,p,n⟩≤4096*6:=Int.mul_le_mul hb.2 hw.2 (by omega) (by omega)
 have hwr:IntKind.i64.wrap (aU t.labels t.dims*ah ⟨k,p,n⟩)=aU t.labels t.dims*ah ⟨k,p,n⟩:=IntWalk.i64_in _ (by omega)
 simp only[go_sem,seval,reduceCtorEq,c1]
 (refine zD (eX k p n) ?_)
 by_cases h2:(t.data.length:Int)=aU t.labels t.dims*ah ⟨k,p,n⟩
 ·have c2:((t.data.length:Int)==aU t.labels t.dims*ah ⟨k,p,n⟩)=true:=by simp [h2]
  have e:T=m4 ⟨k,p,n⟩ t.data:=by rw[← hT,hr,decide_eq_true ⟨h1,h2⟩];rfl
  simp only[go_sem,seval,reduceCtorEq,hwr,c2]
  (refine zC (EM (xs:=t.data) hr hx) ?_)
  simp only[go_sem,seval,reduceCtorEq, ← e]
  (refine zE ?_ ?_<;>try simp only[go_sem,seval,reduceCtorEq])
 ·have c2:((t.data.length:Int)==aU t.labels t.dims*ah ⟨k,p,n⟩)=false:=by simp [h2]
  have e:T=false:=by rw[← hT,hr,decide_eq_false fun h=>h2 h.2];rfl
  simp only[go_sem,seval,reduceCtorEq,hwr,c2,e]
  (refine zE ?_ ?_<;>try simp only[go_sem,seval,reduceCtorEq])
theorem yf {k p n:Int} {t:Ten} (a:I64 k) (b:I64 p) (c:I64 n) (h:TSz 1099511627776 t):Does Tryz.prog 119 [bm k p n,tenA t] [] (.d (.bool (aD ⟨k,p,n⟩ t.labels t.dims t.data))) []:=by
 have hx:=h.x
 have hxl:=hx.len
 have hsz:=oL h
 have htc:=cQ t.labels t.dims
 generalize hT:aD ⟨k,p,n⟩ t.labels t.dims t.data=T
 unfold aD at hT
 (refine spec_of (by kernel_rfl) Tryz.func119 sK (fnOk (nb rfl) ?_);unfold mq)
 unfold tenA at hsz ⊢
 (simp only[Nat.reduceSub,Zl,zn,Nat.reduceAdd,zF];try simp only[af]);(simp only[go_sem,seval,reduceCtorEq,List.replicate])
 (refine zC (hsz) ?_)
 simp only[go_sem,seval,reduceCtorEq]
 (refine zD (vW k p n) ?_)
 cases hr:ae ⟨k,p,n⟩
 ·have e:T=false:=by rw[← hT,hr];rfl
  simp only[go_sem,seval,reduceCtorEq,hr,e]
  (refine zE ?_ ?_<;>try simp only[go_sem,seval,reduceCtorEq])
 have hw:=ci hr
 simp only[go_sem,seval,reduceCtorEq,hr]
 by_cases h1:aU t.labels t.dims= -1
 ·have e:T=false:=by rw[← hT,hr,decide_eq_false fun h=>h.1 h1];rfl
  have c1:aU t.labels t.dims<0:=by omega
  simp only[go_sem,seval,reduceCtorEq,c1,e]
  (refine zE ?_ ?_<;>try simp only[go_sem,seval,reduceCtorEq])
 have hb:1≤aU t.labels t.dims∧aU t.labels t.dims≤4096:=by rcases htc with e | e;exact absurd e h1;omega
 have c1:¬ aU t.labels t.dims<0:=by omega
 have hm1:1*1≤aU t.labels t.dims*ah ⟨k,p,n⟩:=Int.mul_le_mul hb.1 hw.1 (by omega) (by omega)
 have hm2:aU t.labels t.dims*ah ⟨k,p,n⟩≤4096*6:=Int.mul_le_mul hb.2 hw.2 (by omega) (by omega)
 have hwr:IntKind.i64.wrap (aU t.labels t.dims*ah ⟨k,p,n⟩)=aU t.labels t.dims*ah ⟨k,p,n⟩:=IntWalk.i64_in _ (by omega)
 simp only[go_sem,seval,reduceCtorEq,c1]
 (refine zD (f8 k p n) ?_)
 by_cases h2:(t.data.length:Int)=aU t.labels t.dims*ah ⟨k,p,n⟩
 ·have c2:((t.data.length:Int) !=aU t.labels t.dims*ah ⟨k,p,n⟩)=false:=by simp [h2]
  have e:T=m4 ⟨k,p,n⟩ t.data:=by rw[← hT,hr,decide_eq_true ⟨h1,h2⟩];rfl
  simp only[go_sem,seval,reduceCtorEq,hwr,c2]
  refine bV (t.data.length) (mkB 40 1097364144272) (fun q=>∀ j,j<q→0≤t.data.getD j 0∧t.data.getD j 0≤top ⟨k,p,n⟩) (fun q=>[(30,.d (.int q))]) (fun q=>[]) (hi:=fun j hj=>absurd hj (Nat.not_lt_zero j)) (h1:=by first | (simp only[go_sem,seval,reduceCtorEq,nz,na,n1];first | done | rfl) | rfl) (h2:=by first | (simp only[go_sem,seval,reduceCtorEq,nz,na,n1];first | done | rfl) | rfl) (hr:=fun q hq hiq=> ?_)
  unfold kS
  by_cases hlt:q<t.data.length
  ·have d1:(q:Int)<t.data.length:=by omega
   have g1:t.data[q]? =some t.data[q]:=zg hlt
   have gd:=ab hlt
   simp(disch:=omega) only[go_sem,seval,reduceCtorEq,d1,g1,Option.map_some]
   (refine zC (mR k p n hr) ?_)
   simp(disch:=omega) only[go_sem,seval,reduceCtorEq]
   (refine zC (fq t.data[q] 0 (top ⟨k,p,n⟩)) ?_)
   cases b1:decide (0≤t.data[q]∧t.data[q]≤top ⟨k,p,n⟩)
   ·have e2:T=false:=by rw[e];exact uQ q hlt (by rw[gd];exact of_decide_eq_false b1)
    simp only[go_sem,seval,reduceCtorEq,b1,e2]
    (refine zE ?_ ?_<;>try simp only[go_sem,seval,reduceCtorEq])
   ·simp(disch:=omega) only[go_sem,seval,reduceCtorEq,b1]
    (refine NextI.drop (mkB 40 1097364144272) (by omega) (F9 hlt hiq (zd b1)) (h1:= ?_) (h2:= ?_)<;>first | (simp only[go_sem,seval,reduceCtorEq,nz,na,n1];first | done | rfl) | rfl | skip)
  ·have d1:¬ (q:Int)<t.data.length:=by omega
   obtain rfl:q=t.data.length:=by omega
   have e2:T=true:=by rw[e];exact wF hiq
   simp(disch:=omega) only[go_sem,seval,reduceCtorEq,d1,e2]
   (refine zE ?_ ?_<;>try simp only[go_sem,seval,reduceCtorEq])
 ·have c2:((t.data.length:Int) !=aU t.labels t.dims*ah ⟨k,p,n⟩)=true:=by simp [h2]
  have e:T=false:=by rw[← hT,hr,decide_eq_false fun h=>h2 h.2];rfl
  simp only[go_sem,seval,reduceCtorEq,hwr,c2,e]
  (refine zE ?_ ?_<;>try simp only[go_sem,seval,reduceCtorEq])
theorem si {ds is:List Int} (hd:Sz 1099511627776 ds) (hi:Sz 1099511627776 is) (hok:sp ds is) (hdm:∀ d∈ds,1≤d∧d≤8) (hp:aa ds≤4096):Does Tryz.prog 95 [.d (ints ds),.d (ints is)] [] (.d (.int (offs ds is))) []:=
 Does.of_calls (Iv _) fun w γ φ vals hv=>by
  obtain⟨_,_,rfl,h0,h1⟩:=rel2 hv
  obtain⟨A,c,rfl,o⟩:=yp h0 hd
  obtain⟨A',c',rfl,o'⟩:=yp h1 hi
  exact(yS o o' hok hdm hp).mono fun e w' ⟨h,h'⟩=>⟨h,h' ▸ Below.refl _ _⟩
theorem dU {xs:List Int} (h:xs.length≤1099511627776):Does Tryz.prog 72 [.d (ints xs)] [] (.own 0 0 xs.length) [some ⟨1,true,iv xs⟩]:=by
 refine spec_of (by kernel_rfl) Tryz.func72 sP (fnOk (nb rfl) ?_)
 unfold my ints
 simp only[go_sem,seval,gR,List.replicate]
 refine⟨by omega, ?_⟩
 (refine zE ?_ ?_<;>try simp only[go_sem,seval,reduceCtorEq])
theorem fw {x wd:Nat} {l:List Int} (hx:x*wd+wd≤l.length):((l.drop (x*wd)).take wd).length=wd:=by simp;omega
theorem r9 {x wd:Nat} {kk pp nn:Int} {t:Ten} (hw:ah ⟨kk,pp,nn⟩=(wd:Int)) (h1:wd≤6) (hx:x*wd+wd≤t.data.length) (hx2:x≤1099511627776) (h:t.data.length≤1099511627776):
  Does Tryz.prog 81 [bm kk pp nn,tenA t,.d (.int x)] [] (.d (ints ((t.data.drop (x*wd)).take wd))) []:=by
 refine spec_of (by kernel_rfl) Tryz.func81 mU (fnOk (nb rfl) ?_)
 unfold it
 simp only[go_sem,seval,gR,List.replicate]
 (refine zC (eX kk pp nn) ?_)
 have e1:(x:Int)*wd=(x*wd:Nat):=by push_cast;rfl
 have e2:((x:Int)+1)*wd=(x*wd+wd:Nat):=by push_cast;rw[Int.add_mul,Int.one_mul]
 have e3:(((x*wd+wd:Nat):Int)-(x*wd:Nat)).toNat=wd:=by omega
 simp(disch:=omega) only[go_sem,seval,gR,hw,e1,e2,e3]
 refine⟨⟨by omega,by omega⟩, ?_⟩
 refine FnEnd.mk (nb rfl) rfl (zd rfl) ?_ rfl
 simp only[go_sem,seval,reduceCtorEq,fw hx]
theorem yU {x wd:Nat} {kk pp nn:Int} {t:Ten} (hw:ah ⟨kk,pp,nn⟩=(wd:Int)) (h1:wd≤6) (hx:x*wd+wd≤t.data.length) (hx2:x≤1099511627776) (h:t.data.length≤1099511627776):
  Does Tryz.prog 98 [bm kk pp nn,tenA t,.d (.int x)] [] (.own 0 0 wd) [some ⟨1,true,iv ((t.data.drop (x*wd)).take wd)⟩]:=by
 refine spec_of (by kernel_rfl) Tryz.func98 vx (fnOk (nb rfl) ?_)
 unfold oV
 simp only[go_sem,seval,gR,List.replicate]
 (refine zC (f8 kk pp nn) ?_)
 have e1:(x:Int)*wd=(x*wd:Nat):=by push_cast;rfl
 have e2:((x*wd:Nat):Int)+wd=(x*wd+wd:Nat):=by push_cast;rfl
 have e3:(((x*wd+wd:Nat):Int)-(x*wd:Nat)).toNat=wd:=by omega
 simp(disch:=omega) only[go_sem,seval,gR,hw,e1,e2,e3,fw hx]
 refine⟨by omega,by omega, ?_⟩
 (refine zE ?_ ?_<;>try simp only[go_sem,seval,reduceCtorEq])
 rw[List.take_take,Nat.min_self]
theorem cF {r:Rg} {ls ds xs:List Int} (h:aD r ls ds xs=true):ae r=true∧axOk ls ds∧aa ds≤4096∧1≤aa ds∧aU ls ds=aa ds∧(xs.length:Int)=aa ds*ah r:=by
 simp only[aD,Bool.and_eq_true,decide_eq_true_eq]at h
 obtain⟨⟨h1,h2,h3⟩,h4⟩:=h
 rcases cQ ls ds with h5 | ⟨h5,h6,h7,h8⟩
 ·exact absurd h5 h2
 ·exact⟨h1,h5,h6,h8,h7,by rw[h3,h7]⟩
set_option maxRecDepth 100000
theorem nq {t:Ten} {x:Int} (h:t.labels.length≤1099511627776):Does Tryz.prog 114 [tenA t,.d (.int x)] [] (.d (.int (bR t.labels x))) []:=by
 (refine spec_of (by kernel_rfl) Tryz.func114 vK (fnOk (nb rfl) ?_);unfold pf)
 (simp only[Nat.reduceSub,Zl,zn,Nat.reduceAdd,zF];try simp only[af]);(simp only[go_sem,seval,reduceCtorEq,List.replicate])
 refine kr (t.labels.length) (fun k=>x∉t.labels.take k) (fun k=>(ch (.any) (.d (.int x)) (.any) (.any) (.any) (.any) (.any) (.any) (.d (ints t.labels)) (.d (.int t.labels.length)) (.d (.int k)) (.any) (.any) (.any) (.any) (.any) [.any,.any,.any,.any])) (fun k=>[]) (by simp) (Wk.kept' [1,8,9,10] 0 (nb rfl) (by first | rfl | simp only[go_sem,seval,reduceCtorEq,bu,aJ,aI,bg,bv,cut,List.contains_cons,List.contains_nil,Nat.reduceBEq,Int.natCast_zero,Int.natCast_add,Int.natCast_one]) (by first | rfl | simp only[go_sem,seval,reduceCtorEq,bu,aJ,aI,bg,bv,cut,List.contains_cons,List.contains_nil,Nat.reduceBEq,Int.natCast_zero,Int.natCast_add,Int.natCast_one])) fun k hk hi=> ?_
 unfold nI
 by_cases hlt:k<t.labels.length
 ·have h1:(k:Int)<t.labels.length:=by omega
  have hx:t.labels[k]? =some t.labels[k]:=zg hlt
  by_cases he:t.labels[k]=x
  ·have he':(t.labels[k]==x)=true:=by simp [he]
   have e:bR t.labels x=k:=by rw[← he];exact gK hlt (by rw[he];exact hi)
   simp(disch:=omega) only[go_sem,seval,reduceCtorEq,h1,hx,he',e]
   (refine zE ?_ ?_<;>try simp only[go_sem,seval,reduceCtorEq])
  ·have he':(t.labels[k]==x)=false:=by simp [he]
   simp(disch:=omega) only[go_sem,seval,reduceCtorEq,h1,hx,he']
   (refine NextI.mk hlt (lp hlt hi (fun e=>he e.symm)) (Wk.kept' [1,8,9,10] 0 (nb rfl) ?_ ?_)<;>first | rfl | (simp only[go_sem,seval,reduceCtorEq,bu,aJ,aI,bg,bv,cut,List.contains_cons,List.contains_nil,Nat.reduceBEq,Int.natCast_zero,Int.natCast_add,Int.natCast_one];done) | skip)
 ·have h1:¬ (k:Int)<t.labels.length:=by omega
  have e:bR t.labels x= -1:=gJ (by rw[zt (by omega)]at hi;exact hi)
  simp(disch:=omega) only[go_sem,seval,reduceCtorEq,h1,e]
  (refine zE ?_ ?_<;>try simp only[go_sem,seval,reduceCtorEq])
theorem sb {ds:List Int} (h:ds.length≤1099511627776) (hd:∀ d∈ds,1≤d) (hp:aa ds≤1152921504606846976):Does Tryz.prog 37 [.d (ints ds)] [] (.d (.int (aa ds))) []:=by
 (refine spec_of (by kernel_rfl) Tryz.func37 rx (fnOk (nb rfl) ?_);unfold l4)
 (simp only[Nat.reduceSub,Zl,zn,Nat.reduceAdd,zF];try simp only[af]);(simp only[go_sem,seval,reduceCtorEq,List.replicate])
 refine gE (ds.length) (fun k=>(ch (.any) (.any) (.any) (.d (.int (aa (ds.take k)))) (.any) (.any) (.d (ints ds)) (.d (.int ds.length)) (.d (.int k)) (.any) (.any) (.any) (.any) (.any) (.any) (.any) [.any])) (fun k=>[]) (Wk.kept' [3,6,7,8] 0 (nb rfl) (by first | rfl | simp only[go_sem,seval,reduceCtorEq,bu,aJ,aI,bg,bv,cut,List.contains_cons,List.contains_nil,Nat.reduceBEq,Int.natCast_zero,Int.natCast_add,Int.natCast_one]) (by first | rfl | simp only[go_sem,seval,reduceCtorEq,bu,aJ,aI,bg,bv,cut,List.contains_cons,List.contains_nil,Nat.reduceBEq,Int.natCast_zero,Int.natCast_add,Int.natCast_one])) fun k hk=> ?_
 unfold js
 by_cases hlt:k<ds.length
 ·have h1:(k:Int)<ds.length:=by omega
  have hx:ds[k]? =some ds[k]:=zg hlt
  have e:=cZ ds k hlt
  rw[ab hlt]at e
  have b1:=aW (ds.take (k+1)) (fun d hd'=>hd d (List.mem_of_mem_take hd'))
  have b2:=kj ds (k+1) hd
  simp(disch:=omega) only[go_sem,seval,reduceCtorEq,h1,hx, ← e]
  (refine Next.mk hlt (Wk.kept' [3,6,7,8] 0 (nb rfl) ?_ ?_)<;>first | rfl | (simp only[go_sem,seval,reduceCtorEq,bu,aJ,aI,bg,bv,cut,List.contains_cons,List.contains_nil,Nat.reduceBEq,Int.natCast_zero,Int.natCast_add,Int.natCast_one];done) | skip)
 ·have h1:¬ (k:Int)<ds.length:=by omega
  simp(disch:=omega) only[go_sem,seval,reduceCtorEq,h1]
  (refine zE ?_ ?_<;>try simp only[go_sem,seval,reduceCtorEq])
  rw[zt (by omega)]
theorem x5 {xs:List Int} {x:Int} (h:xs.length≤1099511627776):Does Tryz.prog 107 [.d (ints xs),.d (.int x)] [] (.own 0 0 (xs.filter (· !=x)).length) [some ⟨1,true,iv (xs.filter (· !=x))⟩]:=by
 (refine spec_of (by kernel_rfl) Tryz.func107 qn (fnOk (nb rfl) ?_);unfold jT)
 (simp only[Nat.reduceSub,Zl,zn,Nat.reduceAdd,zF];try simp only[af]);(simp only[go_sem,seval,reduceCtorEq,List.replicate])
 refine gE (xs.length) (fun k=>(ch (.any) (.d (.int x)) (.any) (.any) (.any) (.own 0 0 ((xs.take k).filter (· !=x)).length) (.any) (.any) (.d (ints xs)) (.d (.int xs.length)) (.d (.int k)) (.any) (.any) (.any) (.any) (.any) [.any,.any,.any,.any,.any,.any,.any])) (fun k=>[some ⟨1,true,iv ((xs.take k).filter (· !=x))⟩]) (Wk.trans (Wk.nilE 5 1 _ _ rfl) (Wk.kept' [1,5,8,9,10] 1 (nb rfl) (by first | rfl | simp only[go_sem,seval,reduceCtorEq,bu,aJ,aI,bg,bv,cut,List.contains_cons,List.contains_nil,Nat.reduceBEq,Int.natCast_zero,Int.natCast_add,Int.natCast_one]) (by first | rfl | simp only[go_sem,seval,reduceCtorEq,bu,aJ,aI,bg,bv,cut,List.contains_cons,List.contains_nil,Nat.reduceBEq,Int.natCast_zero,Int.natCast_add,Int.natCast_one]))) fun k hk=> ?_
 unfold i9
 by_cases hlt:k<xs.length
 ·have h1:(k:Int)<xs.length:=by omega
  have hx:xs[k]? =some xs[k]:=zg hlt
  have hf:=gZ xs k (· !=x)
  by_cases he:xs[k]=x
  ·have he':(xs[k] !=x)=false:=by simp [he]
   simp(disch:=omega) only[go_sem,seval,reduceCtorEq,h1,hx,he']
   (refine Next.mk hlt (Wk.kept' [1,5,8,9,10] 1 (nb rfl) ?_ ?_)<;>first | rfl | (simp only[go_sem,seval,reduceCtorEq,bu,aJ,aI,bg,bv,cut,List.contains_cons,List.contains_nil,Nat.reduceBEq,Int.natCast_zero,Int.natCast_add,Int.natCast_one,kJ (p:=(· !=x)) hlt he'];done) | skip)
  ·have he':(xs[k] !=x)=true:=by simp [he]
   simp(disch:=omega) only[go_sem,seval,reduceCtorEq,h1,hx,he']
   refine⟨by omega, ?_⟩
   (refine Next.mk hlt (Wk.kept' [1,5,8,9,10] 1 (nb rfl) ?_ ?_)<;>first | rfl | (simp only[go_sem,seval,reduceCtorEq,bu,aJ,aI,bg,bv,cut,List.contains_cons,List.contains_nil,Nat.reduceBEq,Int.natCast_zero,Int.natCast_add,Int.natCast_one,gY (p:=(· !=x)) hlt he',List.length_append];done) | skip)
 ·have h1:¬ (k:Int)<xs.length:=by omega
  simp(disch:=omega) only[go_sem,seval,reduceCtorEq,h1]
  (refine zE ?_ ?_<;>try simp only[go_sem,seval,reduceCtorEq])
  all_goals rw[zt (by omega)]
end Go.Proofs.YtjfmckhbmdjnpaaGreat
