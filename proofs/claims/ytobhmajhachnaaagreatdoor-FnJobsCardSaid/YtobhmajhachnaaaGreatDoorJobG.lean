/-
 Contracts: lists of ints read, lines, elements and tensors read. No condition.
-/
import Derived.Test.YtobhmajhachnaaaGreatDoorJobC
import Derived.Test.YtobhmajhachnaaaGreatDoorFmtA
import Derived.Test.YtobhmajhachnaaaGreatDoorImpA
import Derived.Test.YtobhmajhachnaaaGreatDoorRng
set_option linter.unusedSimpArgs false
set_option linter.unusedVariables false
namespace Go.Proofs.YtobhmajhachnaaaGreatDoor
open Go.RowKit Go.Lift Plain
set_option maxRecDepth 100000
def P18(xs:List Int):Prop:=∀x∈xs,0≤x∧x<1000000000000000000
theorem P18.pos{xs:List Int}(h:P18 xs):Pos xs:=fun x hx=>by have:=h x hx;omega
theorem rS{xs:List Int}(h:xs≠[]):texts xs≠[]:=fun e=>h (by simpa [texts]using e)
theorem pY{xs:List Int}(h:P18 xs){c:UInt8}(hc:c.toNat<48∨57<c.toNat):∀x∈texts xs,c∉x.data.toList:=fun x hx=>by
 obtain⟨y,hy,rfl⟩:=List.mem_map.1 hx;exact Cq (h y hy).1 hc
theorem vf{xs:List ByteArray}{sep:ByteArray}(h:xs≠[]):∃r,(be xs sep).data.toList=(xs.head h).data.toList++r:=by
 match xs with
 | [x]=>exact⟨[],by simp [be,Lib.join,List.intercalate,List.intersperse]⟩
 |x :: y :: l=>exact⟨sep.data.toList++(Lib.join ((y :: l).map (·.data.toList)) sep.data.toList),by simp [be,Lib.join,List.intercalate,List.intersperse]⟩
theorem GC{a b:ByteArray}(h:a.data.toList≠b.data.toList):(a.toList==b.toList)=false:=by
 rw[ByteArray.toList_eq,ByteArray.toList_eq,beq_eq_false_iff_ne];exact h
theorem rZ(b:ByteArray):(b.toList==b.toList)=true:=by simp
theorem join_some{xs:List Int}(h:P18 xs)(hn:xs≠[]){sep:ByteArray}:((be (texts xs) sep).toList==(⟨#[]⟩:ByteArray).toList)=false:=by
 obtain⟨r,hr⟩:=vf (sep:=sep) (rS hn);refine GC ?_;rw[hr];intro e;have h1:=(List.append_eq_nil_iff.1 e).1;obtain⟨y,hy,e2⟩:=List.mem_map.1 (List.head_mem (rS hn));rw[← e2]at h1;exact Cr (h y hy).1 h1
theorem wP{s:ByteArray}:Does Tryz.prog 71 [.d (.str ⟨#[]⟩),.d (.str s)] [] (.tup [.d (ints []),.d (.bool true)]) []:=by
 refine zS Tryz.func71 ic ?_;unfold er;refine zT ?_;refine FnEnd.wk (Wk.nilD 4 _ _ rfl) ?_;exact zX
theorem wO{xs:List Int}{c:UInt8}(hc:c.toNat<48∨57<c.toNat)(hx:xs.length≤1048576)(hn:xs≠[])(hp:P18 xs):
  Does Tryz.prog 71 [.d (.str (be (texts xs) ⟨#[c]⟩)),.d (.str ⟨#[c]⟩)] [] (.tup [.own 0 0 xs.length,.d (.bool true)]) [some ⟨1,true,iv xs⟩]:=by
 have hsz:=fL (sep:=⟨#[c]⟩) (Nat.le_refl 1) hp.pos;have hsp:=Split_d (xs:=texts xs) (c:=c) (rS hn) (pY hp hc) (by omega);have hj:=join_some (sep:=⟨#[c]⟩) hp hn;have es:strs (texts xs)=.sl xs.length (dxv (texts xs)):=by unfold strs;rw[cr]
 rw[es]at hsp;have et:=cr;refine zS Tryz.func71 ic ?_;unfold er;refine zT ?_;simp only[go_sem,seval,reduceCtorEq,hj];(refine zC (hsp) ?_);refine zV ?_;(refine bC (Wk.nilE 6 1 _ _ rfl) ?_;simp only[go_sem,seval,reduceCtorEq]);refine aA (xs.length) (mkB 34 8589674288) (fun k=>[(6,.own 0 0 k),(17,.d (.int k))]) (fun k=>[(0,iv (xs.take k))]) (hr:=fun k hk=> ?_);unfold gS;by_cases hlt:k<xs.length
 ·have d1:(k:Int)<xs.length:=by omega
  have g:(texts xs)[k]? =some (cJ xs[k]):=by simp [texts,hlt]
  have hq:=hp xs[k] (List.getElem_mem _);have hs:xs.take (k+1)=xs.take k++[xs[k]]:=List.take_succ_eq_append_getElem hlt;simp(disch:=omega) only[go_sem,seval,reduceCtorEq,d1,g,Option.map_some];(refine zC (ParseInt_d (n:=xs[k]) hq) ?_);simp(disch:=omega) only[go_sem,seval,reduceCtorEq,List.length_take,Nat.min_eq_left (Nat.le_of_lt hlt), ← hs]
  (repeat (refine And.intro (by omega) ?_))
  exact Next.drop (mkB 34 8589674288) (by omega)
 ·have d1:¬(k:Int)<xs.length:=by omega
  have e:xs.take k=xs:=zt (by omega);have hk:k=xs.length:=by omega
  subst hk;simp(disch:=omega) only[go_sem,seval,reduceCtorEq,d1,e];exact zX
theorem jg{xs:List Int}{c:UInt8}(hc:c.toNat<48∨57<c.toNat)(hx:xs.length≤1048576)(hp:P18 xs):
  Does Tryz.prog 71 [.d (.str (be (texts xs) ⟨#[c]⟩)),.d (.str ⟨#[c]⟩)] [] (.tup [.d (ints xs),.d (.bool true)]) []:=by
 by_cases hn:xs=[]
 ·subst hn
  rw[tW,qe];exact wP
 ·have:=Does.fzSB (wO hc hx hn hp) bn (by rw[cM,Nat.mul_one])
  exact this
theorem ParseInts_d{xs:List Int}(hx:xs.length≤1048576)(hp:P18 xs):Does Tryz.prog 41 [.d (.str (be (texts xs) ⟨#[32]⟩))] [] (.tup [.d (ints xs),.d (.bool true)]) []:=by
 have h:=jg (xs:=xs) (c:=32) (by decide) hx hp;refine zS Tryz.func41 uz ?_;unfold mG;refine zT ?_;(refine zC (h) ?_);refine zU ?_;exact zX
theorem FW{kk pp nn:Int}{xs:List Int}(he:uJ ⟨kk,pp,nn⟩ xs=true)(h:Sz 1048576 xs):Does Tryz.prog 107 [aY kk pp nn,.d (ints xs)] [] (.d (.bool true)) []:=by
 simp only[uJ,Bool.and_eq_true,decide_eq_true_eq]at he;obtain⟨⟨hr,hw⟩,hf⟩:=he;have h1:=qg kk pp nn;rw[hr]at h1;have h2:=eL kk pp nn;rw[← hw]at h2;have h3:=Cs (k:=kk) (p:=pp) (n:=nn) (xs:=xs) hr ⟨by have:=h.len;omega,h.wf⟩;rw[hf]at h3;have c0:((xs.length:Int)==xs.length)=true:=by simp
 refine zS Tryz.func107 yw ?_;unfold r9;refine zT ?_;(refine zC (h1) ?_);refine zU ?_;(refine zC (h2) ?_);simp only[go_sem,seval,reduceCtorEq,c0];(refine zC (h3) ?_);refine zU ?_;exact zX
theorem ParseElem_d{kk pp nn:Int}{xs:List Int}(he:uJ ⟨kk,pp,nn⟩ xs=true)(hz:Sz 1048576 xs)(hp:P18 xs):Does Tryz.prog 74 [aY kk pp nn,.d (.str (be (texts xs) ⟨#[44]⟩))] [] (.tup [.d (ints xs),.d (.bool true)]) []:=by
 have h:=jg (xs:=xs) (c:=44) (by decide) hz.len hp;have hk:=FW he hz;refine zS Tryz.func74 uA ?_;unfold mH;refine zT ?_;(refine zC (h) ?_);refine zU ?_;(refine zC (hk) ?_);refine zU ?_;exact zX
theorem SplitLines_d{ls:List ByteArray}(hn:ls≠[])(ho:∀x∈ls,(10:UInt8)∉x.data.toList)(hs:(be (ls++[⟨#[]⟩]) ⟨#[10]⟩).size<4294967281)(hl:ls.length≤1048576):
  Does Tryz.prog 40 [.d (.str (be (ls++[⟨#[]⟩]) ⟨#[10]⟩))] [] (.d (strs ls)) []:=by
 have hsp:=Split_d (xs:=ls++[⟨#[]⟩]) (c:=10) (by simp) (fun x hx=>by
  rcases List.mem_append.1 hx with h|h
  ·exact ho x h
  ·rw[List.mem_singleton.1 h];simp) hs
 have hll:(ls++[(⟨#[]⟩:ByteArray)]).length=ls.length+1:=by simp
 have es:strs (ls++[⟨#[]⟩])=.sl (ls.length+1) (dxv (ls++[⟨#[]⟩])):=by unfold strs;rw[hll]
 rw[es]at hsp;have g:(ls++[(⟨#[]⟩:ByteArray)])[ls.length]? =some ⟨#[]⟩:=by simp
 have em:((ls.length+1:Nat):Int)-1=(ls.length:Nat):=by omega
 have e0:=rZ ⟨#[]⟩;have tk:List.take ls.length (dxv (ls++[⟨#[]⟩]))=dxv ls:=by simp [dxv]
 unfold strs;refine zS Tryz.func40 sR ?_;unfold lr;refine zT ?_;(refine zC (hsp) ?_);simp(disch:=omega) only[go_sem,seval,reduceCtorEq,em,g,Option.map_some,Int.toNat_natCast,e0,Int.sub_zero,tk]
 (repeat (refine And.intro (by omega) ?_))
 exact zX
set_option maxRecDepth 100000
theorem pc{ls ds:List Int}{k:Nat}:lJ ls ds k=be (texts [ls.getD k 0,ds.getD k 0]) ⟨#[58]⟩:=by
 show _=be ([cJ (ls.getD k 0)]++[cJ (ds.getD k 0)]) ⟨#[58]⟩
 rw[rA,if_neg (by simp),show [cJ (ls.getD k 0)]=[]++[cJ (ls.getD k 0)]from rfl,rA,if_pos rfl]
 rfl
section
variable {t : Ten} {wd n : Nat}
theorem Gu{k:Nat}(hk:k<t.labels.length):(bF t wd n)[k]? =some (lJ t.labels t.dims k):=by
 unfold bF;rw[List.append_assoc,List.getElem?_append_left (by rw[dU];exact hk)];simp [eg,hk]
theorem Gs:(bF t wd n)[t.labels.length]? =some ⟨#[61]⟩:=by
 unfold bF;rw[List.append_assoc,List.getElem?_append_right (by rw[dU];exact Nat.le_refl _),dU,Nat.sub_self]
 rfl
theorem Gt{i:Nat}(hi:i<n):(bF t wd n)[t.labels.length+1+i]? =some (uK t.data wd i):=by
 unfold bF;rw[List.getElem?_append_right (by simp [dU])];have e:t.labels.length+1+i-(eg t.labels t.dims t.labels.length++[(⟨#[61]⟩:ByteArray)]).length=i:=by simp [dU]
 rw[e];simp [kL,hi]
end
theorem CM{xs:List ByteArray}(n:Nat):(dxv xs).drop n=dxv (xs.drop n):=by simp [dxv,List.map_drop]
theorem CL{xs:List ByteArray}(n:Nat):(dxv xs).take n=dxv (xs.take n):=by simp [dxv,List.map_take]
structure WdT(r:Rg)(t:Ten)(wd n:Nat):Prop where
 ok:al r t.labels t.dims t.data=true
 w:af r=wd
 wb:1≤wd∧wd≤6
 nb:1≤n∧n≤4096
 txt:fmtT r t=be (bF t wd n) ⟨#[32]⟩
 len:t.data.length=n*wd
 ft:fits r t.data
 rg:ai r=true
 ax:axOk t.labels t.dims
theorem wdT{r:Rg}{t:Ten}(h:al r t.labels t.dims t.data=true):∃wd n:Nat,WdT r t wd n:=by
 obtain⟨wd,n,h1,h2,h3,h4,h5,h6,h7,hf,hr,ha⟩:=zG h;refine⟨wd,n,h,h1,⟨h3,h4⟩,⟨h5,h6⟩, ?_,h7,hf,hr,ha⟩;unfold fmtT;rw[if_pos h,h1,h2];rfl
section
variable {r : Rg} {t : Ten} {wd n : Nat}
theorem WdT.el(h:WdT r t wd n){i:Nat}(hi:i<n):uJ r ((t.data.drop (i*wd)).take wd)=true∧P18 ((t.data.drop (i*wd)).take wd)∧i*wd+wd≤t.data.length:=by
 obtain⟨h1,h2,h3⟩:=IG h.w h.len h.ft h.rg hi;refine⟨h1,fun x hx=> ?_,h3⟩;have ht:=dA h.rg;obtain⟨k,hk,rfl⟩:=List.mem_iff_getElem.1 hx;have hl:=cK h3;rw[hl]at hk;have e:=IH hk h3;rw[ac (by rw[hl];exact hk)]at e;have:=h.ft (i*wd+k) (by omega);rw[← e]at this;omega
theorem WdT.axp(h:WdT r t wd n){k:Nat}(hk:k<t.labels.length):P18 [t.labels.getD k 0,t.dims.getD k 0]:=fun x hx=>by
 have:=DY h.ax hk;simp only[List.mem_cons,List.not_mem_nil,or_false]at hx;rcases hx with rfl|rfl<;>omega
theorem WdT.out(h:WdT r t wd n){c:UInt8}(h1:c.toNat<44):∀x∈bF t wd n,c∉x.data.toList:=fun x hx=>by
 have hne:∀d:UInt8,44≤d.toNat→c∉(⟨#[d]⟩:ByteArray).data.toList:=fun d hd hm=>by
  have:c=d:=by simpa using hm
  subst this;omega
 simp only[bF,eg,kL,List.mem_append,List.mem_map,List.mem_range,List.mem_singleton]at hx;rcases hx with (⟨k,hk,rfl⟩|rfl)|⟨k,hk,rfl⟩
 ·rw[pc]
  exact oP (hne 58 (by decide)) (pY (h.axp hk) (.inl (by omega)))
 ·exact hne 61 (by decide)
 ·exact oP (hne 44 (by decide)) (pY (h.el hk).2.1 (.inl (by omega)))
theorem WdT.sz(h:WdT r t wd n):(be (bF t wd n) ⟨#[32]⟩).size≤1000000:=wj h.w h.wb.2 h.len h.nb.2 h.ft h.rg h.ax
theorem WdT.axn(h:WdT r t wd n){k:Nat}(hk:k<t.labels.length):((lJ t.labels t.dims k).toList==(⟨#[61]⟩:ByteArray).toList)=false:=by
 refine GC fun e=> ?_
 have hp:=h.axp hk;rw[pc]at e;obtain⟨q,hq⟩:=vf (sep:=⟨#[58]⟩) (rS (xs:=[t.labels.getD k 0,t.dims.getD k 0]) (by simp));rw[hq]at e;have h0:=hp (t.labels.getD k 0) (by simp);have hb:=vg h0.1;have hn:=Cr h0.1;have e2:(cJ (t.labels.getD k 0)).data.toList++q=[61]:=e
 match hm:(cJ (t.labels.getD k 0)).data.toList with
 | []=>exact hn hm
 |y :: l=>
  have:=hb y (by rw[hm];exact List.mem_cons_self);rw[hm,List.cons_append,List.cons.injEq]at e2;rw[e2.1]at this;exact absurd this.2 (by decide)
end
set_option maxHeartbeats 1600000 in
theorem ParseTensor_o{kk pp nn:Int}{t:Ten}{wd n:Nat}(a:I64 kk)(b:I64 pp)(c:I64 nn)(h:WdT ⟨kk,pp,nn⟩ t wd n)(hz:TSz 1048576 t):
  Does Tryz.prog 43 [aY kk pp nn,.d (.str (fmtT ⟨kk,pp,nn⟩ t))] [] (.tup [ownT 0 t,.d (.bool true)]) (stoT t):=by
 have hws:=h.sz;have hwl:=tV t wd n;have hL:=h.ax.1;have hLD:=h.ax.2.1;have hnb:=h.nb;have hwb:=h.wb;have hsp:=Split_d (xs:=bF t wd n) (c:=32) (fun e=>by have:=congrArg List.length e;rw[hwl]at this;simp at this) (h.out (by decide)) (by omega);have es:strs (bF t wd n)=.sl (t.labels.length+1+n) (dxv (bF t wd n)):=by unfold strs;rw[hwl]
 rw[es]at hsp;have hro:=qg kk pp nn;rw[h.rg]at hro;have hft:=nA (t:=t) a b c hz;have htk:=bM (t:=t) a b c hz.up;rw[h.ok]at htk;have etx:=h.txt;have hax:= @Gu t wd n;have hel:= @Gt t wd n;have heq:= @Gs t wd n;have hxn:=fun k (hk:k<t.labels.length)=>h.axn hk
 rw[etx]at hft ⊢;refine zS Tryz.func43 ry ?_;unfold kq;refine zT ?_;(refine zC (hro) ?_);refine zU ?_;(refine zC (hsp) ?_);refine zV ?_;(refine bC (Wk.nilS 2 0 1 _ _ _ rfl rfl) ?_;simp only[go_sem,seval,reduceCtorEq]);(refine bC (Wk.nilS 2 1 1 _ _ _ rfl rfl) ?_;simp only[go_sem,seval,reduceCtorEq]);(refine bC (Wk.nilS 2 2 1 _ _ _ rfl rfl) ?_;simp only[go_sem,seval,reduceCtorEq]);have w0:t.labels.length+1+n-0=t.labels.length+1+n:=by omega
 refine aA (t.labels.length) (mkB 102 9223372036852679456) (fun k=>[(7,.d (.sl (t.labels.length+1+n-k) (dxv ((bF t wd n).drop k))))]) (fun k=>[(2,[.own 3 0 k,.own 4 0 k,.own 5 0 0]),(3,iv (t.labels.take k)),(4,iv (t.dims.take k))]) (h1:=by first|(simp only[go_sem,seval,reduceCtorEq,nz,na,n1,w0,List.drop_zero];first|done|rfl)|rfl) (h2:=by first|(simp only[go_sem,seval,reduceCtorEq,nz,na,n1,w0,List.drop_zero];first|done|rfl)|rfl) (hr:=fun k hk=> ?_);unfold ii;have c0:((t.labels.length+1+n-k:Nat):Int)>0:=by omega
 by_cases hlt:k<t.labels.length
 ·have g:=hax hlt
  have gx:=hxn k hlt;have e58:lJ t.labels t.dims k=be (texts [t.labels.getD k 0,t.dims.getD k 0]) ⟨#[58]⟩:=pc;have hpl:=jg (xs:=[t.labels.getD k 0,t.dims.getD k 0]) (c:=58) (by decide) (by simp) (h.axp hlt);rw[← e58]at hpl;simp(disch:=omega) only[go_sem,seval,reduceCtorEq,c0,List.getElem?_drop,Nat.add_zero,g,Option.map_some,gx];have sl:t.labels.take (k+1)=t.labels.take k++[t.labels.getD k 0]:=by rw[ac hlt];exact List.take_succ_eq_append_getElem hlt
  have hkd:k<t.dims.length:=by omega
  have sd:t.dims.take (k+1)=t.dims.take k++[t.dims.getD k 0]:=by rw[ac hkd];exact List.take_succ_eq_append_getElem hkd
  generalize t.labels.getD k 0=x at*;generalize t.dims.getD k 0=y at*;(refine zC (hpl) ?_);have l2:[x,y].length=2:=rfl;have hl1:(t.labels.take k).length=k:=by rw[List.length_take];omega
  have hl2:(t.dims.take k).length=k:=by rw[List.length_take];omega
  have e1:((t.labels.length+1+n-k:Nat):Int)-1=(t.labels.length+1+n-(k+1):Nat):=by omega
  have e2:List.take (t.labels.length+1+n-(k+1)) (List.drop 1 (dxv (List.drop k (bF t wd n))))=dxv (List.drop (k+1) (bF t wd n)):=by
   rw[CM,List.drop_drop,CL,zt];rw[List.length_drop,hwl];omega
  simp(disch:=omega) only[go_sem,seval,reduceCtorEq,l2,e1,Int.toNat_natCast,e2, ← sl, ← sd]
  (repeat (refine And.intro (by omega) ?_))
  exact Next.drop (mkB 102 9223372036852679456) (by omega)
 ·have hk:k=t.labels.length:=by omega
  subst hk;have g1:((⟨#[61]⟩:ByteArray).toList==(⟨#[61]⟩:ByteArray).toList)=true:=rZ _;have c1:(((t.labels.length+1+n-t.labels.length:Nat):Int)==0)=false:=by rw[beq_eq_false_iff_ne];omega
  have e3:((t.labels.length+1+n-t.labels.length:Nat):Int)-1=(n:Nat):=by omega
  have e4:List.take n (List.drop 1 (dxv (List.drop t.labels.length (bF t wd n))))=dxv (List.drop (t.labels.length+1) (bF t wd n)):=by
   rw[CM,List.drop_drop,CL,zt];rw[List.length_drop,hwl];omega
  have hdt:List.take t.labels.length t.dims=t.dims:=zt (by omega);simp(disch:=omega) only[go_sem,seval,reduceCtorEq,c0,List.getElem?_drop,Nat.add_zero,heq,Option.map_some,g1,c1,e3,e4,Int.toNat_natCast,hdt]
  (repeat (refine And.intro (by omega) ?_))
  have z0:0*wd=0:=Nat.zero_mul wd;refine aA (n) (mkB 102 618967658459448702626969632) (fun i=>[(68,.d (.sl n (dxv (List.drop (t.labels.length+1) (bF t wd n))))),(70,.d (.int i))]) (fun i=>[(2,[.own 3 0 t.labels.length,.own 4 0 t.labels.length,.own 5 0 (i*wd)]),(5,iv (t.data.take (i*wd)))]) (h1:=by first|(simp only[go_sem,seval,reduceCtorEq,nz,na,n1,z0,List.take_zero];first|done|rfl)|rfl) (h2:=by first|(simp only[go_sem,seval,reduceCtorEq,nz,na,n1,z0,List.take_zero];first|done|rfl)|rfl) (hr:=fun i hi=> ?_);unfold ip;by_cases hlt2:i<n
  ·have d2:(i:Int)<n:=by omega
   obtain⟨q1,q2,q3⟩:=h.el hlt2;have ql:=cK q3;have g:=hel hlt2;have hpe:=ParseElem_d (kk:=kk) (pp:=pp) (nn:=nn) (xs:=(t.data.drop (i*wd)).take wd) q1 ⟨by rw[ql];omega,fun x hx=>by have:=q2 x hx;unfold I64;omega⟩ q2;have es2:ints ((t.data.drop (i*wd)).take wd)=.sl wd (dv ((t.data.drop (i*wd)).take wd)):=by unfold ints;rw[ql]
   rw[es2,show be (texts ((t.data.drop (i*wd)).take wd)) ⟨#[44]⟩=uK t.data wd i from rfl]at hpe;simp(disch:=omega) only[go_sem,seval,reduceCtorEq,d2,List.getElem?_drop,g,Option.map_some];have hlx:(t.data.take (i*wd)).length=i*wd:=by rw[List.length_take];omega
   have hzx:=hz.x.len;have em:(i+1)*wd=i*wd+wd:=Nat.succ_mul i wd;have st:t.data.take (i*wd+wd)=t.data.take (i*wd)++(t.data.drop (i*wd)).take wd:=List.take_add;(refine zC (hpe) ?_);simp(disch:=omega) only[go_sem,seval,reduceCtorEq,ql,Nat.le_refl,if_true,List.take_take,Nat.min_self,hlx, ← st]
   (repeat (refine And.intro (by omega) ?_))
   (refine Next.drop (mkB 102 618967658459448702626969632) (by omega) (h1:= ?_) (h2:= ?_)<;>first|(simp only[go_sem,seval,reduceCtorEq,nz,na,n1,em];first|done|rfl)|rfl|skip)
  ·have d2:¬(i:Int)<n:=by omega
   have hi':i=n:=by omega
   subst hi';have e5:i*wd=t.data.length:=h.len.symm;have t1:List.take t.labels.length t.labels=t.labels:=List.take_length;have t3:List.take t.data.length t.data=t.data:=List.take_length;simp only[tenA,ints,aY]at htk hft;rw[← hLD]at htk hft;have gx:((be (bF t wd i) ⟨#[32]⟩).toList==(be (bF t wd i) ⟨#[32]⟩).toList)=true:=rZ _;simp(disch:=omega) only[go_sem,seval,reduceCtorEq,d2,e5,t3];(refine zC (htk) ?_ (by simp only[go_sem,seval,reduceCtorEq,t1,hdt,t3]));refine zV ?_;(refine zC (hft) ?_ (by simp only[go_sem,seval,reduceCtorEq,t1,hdt,t3]));simp(disch:=omega) only[go_sem,seval,reduceCtorEq,gx]
   rw[← hLD];exact zX
theorem G7{P:Program}{f:FuncId}{args:List AV}{t:Ten}{b:Bool}{g0 g1 g2:Bool}(h:Does P f args [] (.tup [ownT 0 t,.d (.bool b)]) [some ⟨1,g0,iv t.labels⟩,some ⟨1,g1,iv t.dims⟩,some ⟨1,g2,iv t.data⟩]):Does P f args [] (.tup [tenA t,.d (.bool b)]) []:=by
 exact oX (Does.wk0 h Wk.nogA)
theorem ParseTensor_d{kk pp nn:Int}{t:Ten}(a:I64 kk)(b:I64 pp)(c:I64 nn)(h:al ⟨kk,pp,nn⟩ t.labels t.dims t.data=true)(hz:TSz 1048576 t):
  Does Tryz.prog 43 [aY kk pp nn,.d (.str (fmtT ⟨kk,pp,nn⟩ t))] [] (.tup [tenA t,.d (.bool true)]) []:=by
 obtain⟨wd,n,hw⟩:=wdT h;exact G7 (ParseTensor_o a b c hw hz)
end Go.Proofs.YtobhmajhachnaaaGreatDoor
