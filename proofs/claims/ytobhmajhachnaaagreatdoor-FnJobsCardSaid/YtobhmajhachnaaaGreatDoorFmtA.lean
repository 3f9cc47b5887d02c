/-
 Contracts: an int's text, texts joined, an element's text. No condition.
-/
import Derived.Test.YtobhmajhachnaaaGreatDoorStr
import Derived.Test.YtobhmajhachnaaaGreatDoorShf
import Derived.Test.YtobhmajhachnaaaGreatDoorMgJobsB
import Derived.Test.YtobhmajhachnaaaGreatDoorRng
import Derived.Test.YtobhmajhachnaaaGreatDoorLiftH
import Derived.Test.YtobhmajhachnaaaGreatDoorArrA
set_option linter.unusedSimpArgs false
set_option linter.unusedVariables false
namespace Go.Proofs.YtobhmajhachnaaaGreatDoor
open Go.RowKit Go.Lift Plain
set_option maxRecDepth 100000
theorem CZ(w:World)(k:Nat)(os:Array Obj):Below w.heap.size w (Sort.grow (w.drewN k) os):=
 ⟨rfl,rfl,rfl,by simp [Sort.grow,World.drewN],fun i hi=>by simp [Sort.grow,World.drewN,Array.getElem?_append,hi]⟩
theorem E4{γ:Labels}{w:World}(hA:Adm γ w):Lib.TabIs Tryz.prog w "internal/strconv.uint64pow10" .u64 Lib.pow10Tab:=by
 obtain⟨h1,cur,T,f,h2,h3⟩:=hA _ _ (List.mem_cons_self ..);have h2:cur.toList=Lib.pow10Tab.map (Value.int .u64):=h2;have hg:Tryz.prog.globalNamed "internal/strconv.uint64pow10" =some powAt:=by kernel_rfl
 simp only[powAt]at hg;unfold Lib.TabIs World.var?;rw[hg];simp only[Option.bind_some,h3];rw[← h2,Array.toArray_toList]
theorem FD{n:Int}(h:I64 n):Does Tryz.prog 73 [.d (.int n)] [] (.d (.str (cJ n))) []:=
 Does.of_callsA (H7 _) fun w γ φ vals hA hr=>by
  obtain⟨_,rfl,h0⟩:=rel1 hr;obtain rfl:=bX h0;have htab:=E4 hA
  refine(Tryz.strconv_Itoa n h.1 h.2 w htab).mono fun e w' hq=> ?_
  obtain⟨rfl,k,os,rfl⟩:=hq;exact⟨rfl,CZ w k os⟩
theorem FC{xs:List ByteArray}{sep:ByteArray}(hn:xs.length≤140737488355328)(hl:(be xs sep).size≤140737488355328):Does Tryz.prog 77 [.d (strs xs),.d (.str sep)] [] (.d (.str (be xs sep))) []:=
 Does.of_callsA (H7 _) fun w γ φ vals hA hr=>by
  obtain⟨_,_,rfl,h0,h1⟩:=rel2 hr;obtain rfl:=gc h1;simp only[Rel,strs,Rd]at h0;obtain⟨A,c,rfl,hc,h0⟩:=h0;by_cases hx:xs=[]
  ·subst hx
   rw[qe]
   refine(Tryz.strings_Join_none A c sep w).mono fun e w' hq=> ?_
   obtain⟨rfl,rfl⟩:=hq;exact⟨rfl,Below.refl _ _⟩
  ·obtain⟨b,o,rfl,hI,hr⟩:=h0.resolve_left (fun e=>hx (List.eq_nil_of_length_eq_zero e.1))
   exact Tryz.strings_Join b o c xs sep w (BS hr) hI.1 hn hc (by rw[Bf]at hl;exact hl)
theorem fx{n:Int}(h:I64 n):Does Tryz.prog 45 [.d (.int n)] [] (.d (.str (cJ n))) []:=by
 refine zS Tryz.func45 uD ?_;unfold mK;refine zT ?_;(refine zC (FD h) ?_);exact zX
theorem w7{xs:List ByteArray}{sep:ByteArray}(hn:xs.length≤140737488355328)(hl:(be xs sep).size≤140737488355328):Does Tryz.prog 47 [.d (strs xs),.d (.str sep)] [] (.d (.str (be xs sep))) []:=by
 refine zS Tryz.func47 Cm ?_;unfold vz;refine zT ?_;(refine zC (FC hn hl) ?_);exact zX
def texts(xs:List Int):List ByteArray:=xs.map cJ
theorem cr(xs:List Int):(texts xs).length=xs.length:=by simp [texts]
theorem tW:texts []=[]:=nr rfl
theorem ww{xs:List Int}{k:Nat}(h:k<xs.length):texts (xs.take (k+1))=texts (xs.take k)++[cJ xs[k]]:=by
 unfold texts;rw[List.take_succ_eq_append_getElem h,List.map_append];rfl
def Pos(xs:List Int):Prop:=∀x∈xs,0≤x∧x≤9223372036854775807
theorem fL{xs:List Int}{sep:ByteArray}(hs:sep.size≤1)(hp:Pos xs):(be (texts xs) sep).size≤xs.length*21:=
 n4 (c:=20) hs xs.length (texts xs) (cr xs) fun x hx=>by
  obtain⟨y,hy,rfl⟩:=List.mem_map.1 hx;exact fY (hp y hy)
theorem ya{xs:List Int}(hz:Sz 1048576 xs)(hp:Pos xs)(h6:xs.length≤6):Does Tryz.prog 75 [.d (ints xs)] [] (.d (.str (be (texts xs) ⟨#[44]⟩))) []:=by
 have hsz:=fL (sep:=⟨#[44]⟩) (by decide) hp;refine zS Tryz.func75 rr ?_;unfold kh;refine zT ?_
 (repeat (refine And.intro (by omega) ?_))
 have e0:=tW;have et:=cr;have e1:([]:List ByteArray)++List.replicate xs.length ⟨#[]⟩=List.replicate xs.length ⟨#[]⟩:=by simp
 refine aA (xs.length) (mkB 24 4190256) (fun k=>[(11,.d (.int k))]) (fun k=>[(0,xv (texts (xs.take k)++List.replicate (xs.length-k) ⟨#[]⟩))]) (h1:=by first|(simp only[go_sem,seval,reduceCtorEq,nz,na,n1,e0,e1,Nat.sub_zero];first|done|rfl)|rfl) (h2:=by first|(simp only[go_sem,seval,reduceCtorEq,nz,na,n1,e0,e1,Nat.sub_zero];first|done|rfl)|rfl) (hr:=fun k hk=> ?_);unfold ij;by_cases hlt:k<xs.length
 ·have d1:(k:Int)<xs.length:=by omega
  have g:xs[k]? =some xs[k]:=zg hlt;have hq:=hp xs[k] (List.getElem_mem _);have hs:=ww hlt;simp(disch:=omega) only[go_sem,seval,reduceCtorEq,d1,g,Option.map_some];(refine zC (fx (n:=xs[k]) ⟨by omega,hq.2⟩) ?_);have hTl:(texts (xs.take k)).length=k:=by rw[cr,List.length_take];omega
  have hll:(texts (xs.take k)++List.replicate (xs.length-k) (⟨#[]⟩:ByteArray)).length=xs.length:=by rw[List.length_append,hTl,List.length_replicate];omega
  have hpu:List.take k (texts (xs.take k)++List.replicate (xs.length-k) (⟨#[]⟩:ByteArray))++[cJ xs[k]]++List.drop (k+1) (texts (xs.take k)++List.replicate (xs.length-k) ⟨#[]⟩)=texts (xs.take (k+1))++List.replicate (xs.length-(k+1)) ⟨#[]⟩:=by
   rw[List.take_append_of_le_length (by omega),zt (by omega),List.drop_append,List.drop_eq_nil_of_le (by omega),List.nil_append,List.drop_replicate,hs,hTl,show xs.length-k-(k+1-k)=xs.length-(k+1)by omega]
  simp(disch:=omega) only[go_sem,seval,reduceCtorEq,hll,hpu]
  (repeat (refine And.intro (by omega) ?_))
  exact Next.drop (mkB 24 4190256) (by omega)
 ·have d1:¬(k:Int)<xs.length:=by omega
  have hk:k=xs.length:=by omega
  have e:texts (xs.take k)++List.replicate (xs.length-k) ⟨#[]⟩=texts xs:=by rw[zt (by omega),show xs.length-k=0 by omega,List.replicate_zero,List.append_nil]
  simp(disch:=omega) only[go_sem,seval,reduceCtorEq,d1,e];have et2:(texts xs).take xs.length=texts xs:=zt (by rw[cr];exact Nat.le_refl _);have es:strs (texts xs)=.sl xs.length (dxv (texts xs)):=by unfold strs;rw[cr]
  (refine zC (w7 (xs:=texts xs) (sep:=⟨#[44]⟩) (by rw[cr];omega) (by omega)) ?_ (by simp only[go_sem,seval,reduceCtorEq,es,et,et2]));exact zX
set_option maxRecDepth 100000
def lJ(ls ds:List Int)(i:Nat):ByteArray:=cJ (ls.getD i 0)++⟨#[58]⟩++cJ (ds.getD i 0)
def eg(ls ds:List Int)(k:Nat):List ByteArray:=(List.range k).map (lJ ls ds)
def uK(xs:List Int)(wd i:Nat):ByteArray:=be (texts ((xs.drop (i*wd)).take wd)) ⟨#[44]⟩
def kL(xs:List Int)(wd k:Nat):List ByteArray:=(List.range k).map (uK xs wd)
def bF(t:Ten)(wd i:Nat):List ByteArray:=eg t.labels t.dims t.labels.length++[⟨#[61]⟩]++kL t.data wd i
def fmtT(r:Rg)(t:Ten):ByteArray:=if al r t.labels t.dims t.data=true then be (bF t (af r).toNat (aa t.dims).toNat) ⟨#[32]⟩ else ⟨#[]⟩
theorem dU(ls ds:List Int)(k:Nat):(eg ls ds k).length=k:=by simp [eg]
theorem CK(xs:List Int)(wd k:Nat):(kL xs wd k).length=k:=by simp [kL]
theorem tV(t:Ten)(wd i:Nat):(bF t wd i).length=t.labels.length+1+i:=by simp [bF,dU,CK];omega
theorem D0(ls ds:List Int):eg ls ds 0=[]:=nr rfl
theorem Bg(ls ds:List Int)(k:Nat):eg ls ds (k+1)=eg ls ds k++[lJ ls ds k]:=by simp [eg,List.range_succ]
theorem D6(t:Ten)(wd i:Nat):bF t wd (i+1)=bF t wd i++[uK t.data wd i]:=by simp [bF,kL,List.range_succ]
theorem D5(t:Ten)(wd:Nat):eg t.labels t.dims t.labels.length++[⟨#[61]⟩]=bF t wd 0:=by simp [bF,kL]
theorem zG{r:Rg}{t:Ten}(h:al r t.labels t.dims t.data=true):∃wd n:Nat,af r=wd∧aa t.dims=n∧1≤wd∧wd≤6∧1≤n∧n≤4096∧t.data.length=n*wd∧fits r t.data∧ai r=true∧axOk t.labels t.dims:=by
 obtain⟨f1,f2,f3,f4,f5,f6⟩:=bI h;have hw:=cm f1;refine⟨(af r).toNat,(aa t.dims).toNat,by omega,by omega,by omega,by omega,by omega,by omega, ?_, ?_,f1,f2⟩
 ·have:(t.data.length:Int)=((aa t.dims).toNat*(af r).toNat:Nat):=by
   rw[f6];push_cast;rw[Int.toNat_of_nonneg (by omega),Int.toNat_of_nonneg (by omega)]
  omega
 ·simp only[al,Bool.and_eq_true,jm,decide_eq_true_eq]at h
  exact h.2
theorem IH{xs:List Int}{o wd k:Nat}(h:k<wd)(hx:o+wd≤xs.length):((xs.drop o).take wd).getD k 0=xs.getD (o+k) 0:=by
 simp [List.getD,List.getElem?_take,h]
theorem IG{r:Rg}{t:Ten}{wd n i:Nat}(h1:af r=wd)(hn:t.data.length=n*wd)(hf:fits r t.data)(hr:ai r=true)(hi:i<n):uJ r ((t.data.drop (i*wd)).take wd)=true∧Pos ((t.data.drop (i*wd)).take wd)∧i*wd+wd≤t.data.length:=by
 have hb:i*wd+wd≤t.data.length:=by
  rw[hn, ← Nat.succ_mul];exact Nat.mul_le_mul_right _ hi
 have hl:=cK hb;have hft:fits r ((t.data.drop (i*wd)).take wd):=fun k hk=>by
  rw[hl]at hk;rw[IH hk hb];exact hf _ (by omega)
 have ht:=dA hr;refine⟨?_,fun x hx=> ?_,hb⟩
 ·simp only[uJ,hr,jm,Bool.true_and,Bool.and_eq_true,decide_eq_true_eq]
  exact⟨by rw[hl,h1],hft⟩
 ·obtain⟨k,hk,rfl⟩:=List.mem_iff_getElem.1 hx
  have:=hft k hk;rw[ac hk]at this;omega
theorem KE{xs:List Int}{wd i:Nat}(h6:wd≤6)(hb:i*wd+wd≤xs.length)(hp:Pos ((xs.drop (i*wd)).take wd)):(uK xs wd i).size≤126:=by
 have:=fL (sep:=⟨#[44]⟩) (by decide) hp;rw[cK hb]at this;unfold uK;have:=Nat.mul_le_mul_right 21 h6;omega
theorem DY{ls ds:List Int}(h:axOk ls ds){k:Nat}(hk:k<ls.length):(0≤ls.getD k 0∧ls.getD k 0≤99)∧1≤ds.getD k 0∧ds.getD k 0≤8:=by
 have:=h.2.2 k hk;unfold axAt at this;omega
theorem KW{ls ds:List Int}(h:axOk ls ds){k:Nat}(hk:k<ls.length):(lJ ls ds k).size≤126:=by
 obtain⟨h1,h2⟩:=DY h hk;have s1:=fY (n:=ls.getD k 0) (by omega);have s2:=fY (n:=ds.getD k 0) (by omega);unfold lJ;simp only[ByteArray.size_append];have:(⟨#[58]⟩:ByteArray).size=1:=rfl;omega
theorem wj{r:Rg}{t:Ten}{wd n:Nat}(h1:af r=wd)(h6:wd≤6)(hn:t.data.length=n*wd)(hn2:n≤4096)(hf:fits r t.data)(hr:ai r=true)(ha:axOk t.labels t.dims):(be (bF t wd n) ⟨#[32]⟩).size≤1000000:=by
 have:=n4 (c:=126) (sep:=⟨#[32]⟩) (by decide) _ (bF t wd n) (tV t wd n) fun x hx=>by
  simp only[bF,eg,kL,List.mem_append,List.mem_map,List.mem_range,List.mem_singleton]at hx;rcases hx with (⟨k,hk,rfl⟩|rfl)|⟨k,hk,rfl⟩
  ·exact KW ha hk
  ·decide
  ·obtain⟨_,hp,hb⟩:=IG h1 hn hf hr hk
   exact KE h6 hb hp
 have:=ha.1;omega
set_option maxHeartbeats 1600000 in
theorem nA{kk pp nn:Int}{t:Ten}(a:I64 kk)(b:I64 pp)(c:I64 nn)(hz:TSz 1048576 t):Does Tryz.prog 46 [aY kk pp nn,tenA t] [] (.d (.str (fmtT ⟨kk,pp,nn⟩ t))) []:=by
 refine zS Tryz.func46 qt ?_;unfold it;refine zT ?_;(refine zC (bM (k:=kk) (p:=pp) (n:=nn) (t:=t) a b c hz.up) ?_);by_cases hok:al ⟨kk,pp,nn⟩ t.labels t.dims t.data=true
 rotate_left
 ·have hk:al ⟨kk,pp,nn⟩ t.labels t.dims t.data=false:=by simpa using hok
  have e:fmtT ⟨kk,pp,nn⟩ t=⟨#[]⟩:=if_neg hok;simp only[go_sem,seval,reduceCtorEq,hk,e];exact zX
 obtain⟨wd,n,h1,h2,h3,h4,h5,h6,h7,hf,hr,ha⟩:=zG hok;have e:fmtT ⟨kk,pp,nn⟩ t=be (bF t wd n) ⟨#[32]⟩:=by unfold fmtT;rw[if_pos hok,h1,h2];rfl
 have hws:=wj h1 h4 h7 h6 hf hr ha;have hL:=ha.1;have hLD:=ha.2.1;have hzx:=hz.x.len;simp only[go_sem,seval,reduceCtorEq,hok,e];have e0:=D0 t.labels t.dims;have et:=dU t.labels t.dims;(refine bC (Wk.nilE 5 1 _ _ rfl) ?_;simp only[go_sem,seval,reduceCtorEq]);refine aA (t.labels.length) (mkB 55 34359607488) (fun k=>[(5,.own 2 0 k),(16,.d (.int k))]) (fun k=>[(2,xv (eg t.labels t.dims k))]) (h1:=by first|(simp only[go_sem,seval,reduceCtorEq,nz,na,n1,e0,Gn];first|done|rfl)|rfl) (h2:=by first|(simp only[go_sem,seval,reduceCtorEq,nz,na,n1,e0,Gn];first|done|rfl)|rfl) (hr:=fun k hk=> ?_);unfold gP
 by_cases hlt:k<t.labels.length
 ·have d1:(k:Int)<t.labels.length:=by omega
  have d2:(k:Int)<t.dims.length:=by omega
  have hkd:k<t.dims.length:=by omega
  have g:t.labels[k]? =some t.labels[k]:=zg hlt;have g2:t.dims[k]? =some t.dims[k]:=zg hkd;have hq:=DY ha hlt;rw[ac hlt,ac hkd]at hq;have hs:=Bg t.labels t.dims k;have hax:lJ t.labels t.dims k=cJ t.labels[k]++⟨#[58]⟩++cJ t.dims[k]:=by unfold lJ;rw[ac hlt,ac hkd]
  rw[hax]at hs;have s1:=fY (n:=t.labels[k]) (by omega);have s2:=fY (n:=t.dims[k]) (by omega);have s3:(⟨#[58]⟩:ByteArray).size=1:=rfl;simp(disch:=omega) only[go_sem,seval,reduceCtorEq,d1,g,Option.map_some];(refine zD (fx (n:=t.labels[k]) ⟨by omega,by omega⟩) ?_);simp(disch:=omega) only[go_sem,seval,reduceCtorEq,d2,g2,Option.map_some,s3,ByteArray.size_append]
  (repeat (refine And.intro (by omega) ?_))
  (refine zD (fx (n:=t.dims[k]) ⟨by omega,by omega⟩) ?_);simp(disch:=omega) only[go_sem,seval,reduceCtorEq,Option.map_some,s3,ByteArray.size_append,et, ← hs]
  (repeat (refine And.intro (by omega) ?_))
  exact Next.drop (mkB 55 34359607488) (by omega)
 ·have d1:¬(k:Int)<t.labels.length:=by omega
  have hk':k=t.labels.length:=by omega
  subst hk';simp(disch:=omega) only[go_sem,seval,reduceCtorEq,d1,et];refine⟨by omega, ?_⟩;have w0:=D5 t wd;have wl:=tV t wd;refine aA (n) (mkB 55 9007061815787520) (fun i=>[(5,.own 2 0 (t.labels.length+1+i)),(8,.d (.int i))]) (fun i=>[(2,xv (bF t wd i))]) (h1:=by first|(simp only[go_sem,seval,reduceCtorEq,nz,na,n1,w0,Nat.add_zero];first|done|rfl)|rfl) (h2:=by first|(simp only[go_sem,seval,reduceCtorEq,nz,na,n1,w0,Nat.add_zero];first|done|rfl)|rfl) (hr:=fun i hi=> ?_);unfold gU;refine zV ?_;(refine zC (gt (ds:=t.dims) (by omega) (fun d hd=>by have:=ha.dim d hd;omega) (by omega)) ?_)
  simp(disch:=omega) only[go_sem,seval,reduceCtorEq,h2];by_cases hlt2:i<n
  ·have d2:(i:Int)<n:=by omega
   obtain⟨q1,q2,q3⟩:=IG h1 h7 hf hr hlt2;have hs:bF t wd (i+1)=bF t wd i++[be (texts ((t.data.drop (i*wd)).take wd)) ⟨#[44]⟩]:=D6 t wd i;simp(disch:=omega) only[go_sem,seval,reduceCtorEq,d2];(refine zC (iV (x:=i) (wd:=wd) (kk:=kk) (pp:=pp) (nn:=nn) (t:=t) h1 (by omega) q3 (by omega) (by omega)) ?_);refine zV ?_;have ql:=cK q3;(refine zC (ya (xs:=(t.data.drop (i*wd)).take wd) ⟨by rw[ql];omega,fun x hx=>⟨by have:=(q2 x hx).1;omega,(q2 x hx).2⟩⟩ q2 (by omega)) ?_);simp(disch:=omega) only[go_sem,seval,reduceCtorEq,wl, ← hs,Option.map_some]
   (repeat (refine And.intro (by omega) ?_))
   exact Next.drop (mkB 55 9007061815787520) (by omega)
  ·have d2:¬(i:Int)<n:=by omega
   have hi':i=n:=by omega
   subst hi';simp(disch:=omega) only[go_sem,seval,reduceCtorEq,d2];have wt:(bF t wd i).take (t.labels.length+1+i)=bF t wd i:=zt (by rw[wl];exact Nat.le_refl _);have es:strs (bF t wd i)=.sl (t.labels.length+1+i) (dxv (bF t wd i)):=by unfold strs;rw[wl]
   (refine zC (w7 (xs:=bF t wd i) (sep:=⟨#[32]⟩) (by rw[wl];omega) (by omega)) ?_ (by simp only[go_sem,seval,reduceCtorEq,es,wl,wt]));exact zX
end Go.Proofs.YtobhmajhachnaaaGreatDoor
