/-
 Contracts: the drawing of test data: the cursor over a code, numbers drawn. No condition.
-/
import Derived.Test.YtobhmajhachnaaaGreatDoorMgJobsA
import Derived.Test.YtobhmajhachnaaaGreatDoorStkA
import Derived.Test.YtobhmajhachnaaaGreatDoorArrA
set_option linter.unusedSimpArgs false
set_option linter.unusedVariables false
namespace Go.Proofs.YtobhmajhachnaaaGreatDoor
open Go.RowKit Go.Lift Plain
set_option maxRecDepth 100000
def dby(b:List Int):List D:=b.map .byte
def bytes(b:List Int):D:=.sl b.length (dby b)
structure CodeOk(b:List Int):Prop where
 len:b.length≤1048576
 wf:∀x∈b,0≤x∧x≤255
def curC(b:List Int)(i:Nat)(h:Int):List AV:=[.d (bytes b),.d (.int i),.d (.int h)]
def curR(b:List Int)(i:Nat)(h:Int):Option Root:=some ⟨0,false,curC b i h⟩
theorem KL(b:List Int)(i:Nat):(dby b)[i]? =b[i]?.map .byte:=by simp [dby]
attribute [go_sem] KL
def a255(x:Int):Int:=IntKind.i64.wrap ((BitVec.ofInt 64 x&&& 255#64).toNat:Int)
theorem qp(x:Int):0≤a255 x∧a255 x≤255:=by
 have h:(BitVec.ofInt 64 x&&& 255#64).toNat≤255:=by
  rw[BitVec.toNat_and];exact Nat.and_le_right
 unfold a255;rw[IntWalk.i64_in _ (by omega)];omega
def gH(h:Int):Int:=IntKind.i64.wrap (IntKind.i64.wrap (h*6364136223846793005)+1442695040888963407)
def gX(h:Int):Int:=a255 (IntKind.i64.wrap ((BitVec.ofInt 64 (h.fdiv (2 ^ (min 33 64))) ^^^ BitVec.ofInt 64 (h.fdiv (2 ^ (min 45 64)))).toNat:Int))
theorem ui{b:List Int}(hb:CodeOk b)(i:Nat)(hi:i≤b.length)(h:Int):∃(x:Int) (j:Nat) (h':Int),(0≤x∧x≤255∧j≤b.length)∧Does Tryz.prog 69 [.ptr 0 0] [curR b i h] (.d (.int x)) [curR b j h']:=by
 have hl:=hb.len;have g1:IntKind.i64.wrap (IntKind.i64.wrap (h*6364136223846793005)+1442695040888963407)=gH h:=rfl;have g2:IntKind.i64.wrap ((BitVec.ofInt 64 (IntKind.i64.wrap ((BitVec.ofInt 64 ((gH h).fdiv (2 ^ (min 33 64))) ^^^ BitVec.ofInt 64 ((gH h).fdiv (2 ^ (min 45 64)))).toNat:Int))&&& 255#64).toNat:Int)=gX (gH h):=rfl;have g3:=qp (IntKind.i64.wrap ((BitVec.ofInt 64 ((gH h).fdiv (2 ^ (min 33 64))) ^^^ BitVec.ofInt 64 ((gH h).fdiv (2 ^ (min 45 64)))).toNat:Int));change 0≤gX (gH h)∧gX (gH h)≤255 at g3;by_cases hlt:i<b.length
 ·have d1:(i:Int)<b.length:=by omega
  have g:b[i]? =some b[i]:=zg hlt;have hw:=hb.wf b[i] (List.getElem_mem _);have g4:IntKind.i64.wrap ((BitVec.ofInt 64 (gX (gH h)+b[i])&&& 255#64).toNat:Int)=a255 (gX (gH h)+b[i]):=rfl;have g5:(i:Int)+1=((i+1:Nat):Int):=by omega
  refine⟨a255 (gX (gH h)+b[i]),i+1,gH h,⟨(qp _).1,(qp _).2,hlt⟩, ?_⟩;refine zS Tryz.func69 fw ?_;unfold dV;unfold curR curC bytes;refine zT ?_;simp(disch:=omega) only[go_sem,seval,reduceCtorEq,g1,g2,d1,g,g4,g5,Option.map_some];exact zX
 ·have d1:¬(i:Int)<b.length:=by omega
  refine⟨gX (gH h),i,gH h,⟨g3.1,g3.2,hi⟩, ?_⟩;refine zS Tryz.func69 fw ?_;unfold dV;unfold curR curC bytes;refine zT ?_;simp(disch:=omega) only[go_sem,seval,reduceCtorEq,g1,g2,d1];exact zX
def Draws(f:FuncId)(b:List Int)(i:Nat)(h:Int)(args:List AV)(P:Int→Prop):Prop:=
 ∃(x:Int) (j:Nat) (h':Int),(P x∧j≤b.length)∧Does Tryz.prog f (.ptr 0 0 :: args) [curR b i h] (.d (.int x)) [curR b j h']
theorem ro{b:List Int}(hb:CodeOk b)(i:Nat)(hi:i≤b.length)(h:Int){n:Int}(hn:1≤n∧n≤1048576):Draws 54 b i h [.d (.int n)] fun x=>0≤x∧x<n:=by
 obtain⟨x,j,h',⟨x0,x1,hj⟩,hd⟩:=ui hb i hi h;have e:=Int.tmod_eq_emod_of_nonneg x0 (b:=n);have m0:=Int.emod_nonneg x (b:=n) (by omega);have m1:=Int.emod_lt_of_pos x (b:=n) (by omega);refine⟨x % n,j,h',⟨⟨m0,m1⟩,hj⟩, ?_⟩;have d0:¬ n≤0:=by omega
 have d1:n≠0:=by omega
 refine zS Tryz.func54 ns ?_;unfold hU;unfold curR curC;refine zT ?_;simp only[go_sem,seval,reduceCtorEq,d0];unfold curR curC at hd;(refine am [0] [] false (zd rfl) ?_ _ ?_ (hd) ?_ ?_;(focus (simp only[go_sem,seval,reduceCtorEq];done));(focus (simp only[go_sem,seval,reduceCtorEq];done));(focus (first|rfl|(simp only[go_sem,seval,reduceCtorEq];done))));simp only[go_sem,seval,reduceCtorEq,e,d1]
 (repeat (refine And.intro (by omega) ?_))
 exact zX
theorem eO{b:List Int}(hb:CodeOk b)(i:Nat)(hi:i≤b.length)(h:Int){xs:List Int}(hn:1≤xs.length∧xs.length≤1048576):∃(x:Int) (j:Nat) (h':Int),(x∈xs∧j≤b.length)∧Does Tryz.prog 55 [.ptr 0 0,.own 1 0 xs.length] [curR b i h,some ⟨1,false,iv xs⟩] (.d (.int x)) [curR b j h',some ⟨1,false,iv xs⟩]:=by
 obtain⟨x,j,h',⟨⟨x0,x1⟩,hj⟩,hd⟩:=ro hb i hi h (n:=xs.length) (by omega);have hx:x=((x.toNat:Nat):Int):=by omega
 have hlt:x.toNat<xs.length:=by omega
 have g:xs[x.toNat]? =some xs[x.toNat]:=zg hlt;refine⟨xs[x.toNat],j,h',⟨List.getElem_mem _,hj⟩, ?_⟩;refine zS Tryz.func55 xk ?_;unfold pI;unfold curR curC;refine zT ?_;unfold curR curC at hd;(refine am [0] [] false (zd rfl) ?_ _ ?_ (hd) ?_ ?_;(focus (simp only[go_sem,seval,reduceCtorEq];done));(focus (simp only[go_sem,seval,reduceCtorEq];done));(focus (first|rfl|(simp only[go_sem,seval,reduceCtorEq];done))));simp(disch:=omega) only[go_sem,seval,reduceCtorEq,g,Option.map_some]
 (repeat (refine And.intro (by omega) ?_))
 exact zX
def Li(h x:Int):Int:=IntKind.i64.wrap ((BitVec.ofInt 64 (IntKind.i64.wrap (IntKind.i64.wrap (IntKind.i64.wrap (h*131)+x)+7))&&& 1073741823#64).toNat:Int)
def gNew(b:List Int):Nat→Int
 |0=>55127+(b.length:Int)
 |k+1=>Li (gNew b k) (b.getD k 0)
theorem I8{b:List Int}(hb:CodeOk b):Does Tryz.prog 56 [.d (bytes b)] [] (.ptr 0 0) [curR b 0 (gNew b (min b.length 4000))]:=by
 have hl:=hb.len;refine zS Tryz.func56 yk ?_;unfold qU;unfold bytes;simp(disch:=omega) only[go_sem,seval,reduceCtorEq];have e0:gNew b 0=55127+(b.length:Int):=rfl;refine aA (min b.length 4000) (mkB 32 268435200) (fun k=>[(3,.d (.int (gNew b k))),(4,.d (.int k))]) (fun k=>[]) (h1:=by first|(simp only[go_sem,seval,reduceCtorEq,nz,na,n1,e0];first|done|rfl)|rfl) (h2:=by first|(simp only[go_sem,seval,reduceCtorEq,nz,na,n1,e0];first|done|rfl)|rfl) (hr:=fun k hk=> ?_);unfold pq;by_cases hlt:k<min b.length 4000
 ·have hk:k<b.length:=by omega
  have d1:(k:Int)<b.length:=by omega
  have d2:(k:Int)<4000:=by omega
  have g:b[k]? =some b[k]:=zg hk;have hs:gNew b (k+1)=IntKind.i64.wrap ((BitVec.ofInt 64 (IntKind.i64.wrap (IntKind.i64.wrap (IntKind.i64.wrap (gNew b k*131)+b[k])+7))&&& 1073741823#64).toNat:Int):=by
   show Li (gNew b k) (b.getD k 0)=_
   rw[ac hk]
   rfl
  have hw:=hb.wf b[k] (List.getElem_mem _);have gw:IntKind.i64.wrap b[k]=b[k]:=IntWalk.i64_in _ (by omega);simp(disch:=omega) only[go_sem,seval,reduceCtorEq,d1,d2,g,gw,Option.map_some, ← hs]
  (repeat (refine And.intro (by omega) ?_))
  exact Next.drop (mkB 32 268435200) (by omega)
 ·have hk:k=min b.length 4000:=by omega
  by_cases hk2:k<b.length
  ·have d1:(k:Int)<b.length:=by omega
   have d2:¬(k:Int)<4000:=by omega
   simp(disch:=omega) only[go_sem,seval,reduceCtorEq,d1,d2];rw[← hk];unfold curR curC bytes;exact zX
  ·have d1:¬(k:Int)<b.length:=by omega
   simp(disch:=omega) only[go_sem,seval,reduceCtorEq,d1];rw[← hk];unfold curR curC bytes;exact zX
theorem sD{b:List Int}(hb:CodeOk b){n:Nat}(hn:n≤1000):∃(i:Nat) (h:Int),i≤b.length∧Does Tryz.prog 21 [.d (bytes b),.d (.int n)] [] (.ptr 0 0) [curR b i h]:=by
 have hl:=hb.len;have hd:=I8 hb;refine⟨min n b.length,IntKind.i64.wrap ((BitVec.ofInt 64 (IntKind.i64.wrap (IntKind.i64.wrap (IntKind.i64.wrap (gNew b (min b.length 4000)*31)+n*7919)+1))&&& 1073741823#64).toNat:Int),by omega, ?_⟩;generalize gNew b (min b.length 4000)=h0 at hd;refine zS Tryz.func21 AJ ?_;unfold tL;unfold curR curC bytes;unfold curR curC bytes at hd;refine zT ?_;(refine zC (hd) ?_);have e:min (n:Int) (b.length:Int)=((min n b.length:Nat):Int):=by omega
 simp(disch:=omega) only[go_sem,seval,reduceCtorEq,e];exact zX
theorem MakeNum_d{b:List Int}(hb:CodeOk b){n:Nat}(hn:n≤1000):∃x:Int,(0≤x∧x≤65535)∧Does Tryz.prog 39 [.d (bytes b),.d (.int n)] [] (.d (.int x)) []:=by
 obtain⟨i,h,hi,hd⟩:=sD hb hn;obtain⟨x,j,h',⟨x0,x1,hj⟩,hx⟩:=ui hb i hi h;obtain⟨y,j2,h2,⟨y0,y1,hj2⟩,hy⟩:=ui hb j hj h';refine⟨256*x+y,⟨by omega,by omega⟩, ?_⟩;refine zS Tryz.func39 xm ?_;unfold pM;unfold curR curC at hd hx hy;refine zT ?_;(refine zC (hd) ?_);simp only[go_sem,seval,reduceCtorEq];(refine am [0] [] false (zd rfl) ?_ _ ?_ (hx) ?_ ?_;(focus (simp only[go_sem,seval,reduceCtorEq];done));(focus (simp only[go_sem,seval,reduceCtorEq];done));(focus (first|rfl|(simp only[go_sem,seval,reduceCtorEq];done))));simp(disch:=omega) only[go_sem,seval,reduceCtorEq]
 (refine am [0] [] false (zd rfl) ?_ _ ?_ (hy) ?_ ?_;(focus (simp only[go_sem,seval,reduceCtorEq];done));(focus (simp only[go_sem,seval,reduceCtorEq];done));(focus (first|rfl|(simp only[go_sem,seval,reduceCtorEq];done))));simp(disch:=omega) only[go_sem,seval,reduceCtorEq];exact zX
theorem MakeSize_d{b:List Int}(hb:CodeOk b){n:Nat}(hn:n≤1000){lo hi:Int}(h:0≤lo∧lo≤hi∧hi≤1000000):∃x:Int,(lo≤x∧x≤hi)∧Does Tryz.prog 11 [.d (bytes b),.d (.int n),.d (.int lo),.d (.int hi)] [] (.d (.int x)) []:=by
 obtain⟨x,⟨x0,x1⟩,hx⟩:=MakeNum_d hb hn;have e:=Int.tmod_eq_emod_of_nonneg x0 (b:=hi-lo+1);have m0:=Int.emod_nonneg x (b:=hi-lo+1) (by omega);have m1:=Int.emod_lt_of_pos x (b:=hi-lo+1) (by omega);refine⟨lo+x % (hi-lo+1),⟨by omega,by omega⟩, ?_⟩;have d1:hi-lo+1≠0:=by omega
 refine zS Tryz.func11 vF ?_;unfold nU;unfold bytes;unfold bytes at hx;refine zT ?_;(refine zC (hx) ?_);simp(disch:=omega) only[go_sem,seval,reduceCtorEq,e]
 (repeat (refine And.intro (by omega) ?_))
 exact zX
theorem FK{b:List Int}(hb:CodeOk b)(i:Nat)(hi:i≤b.length)(h:Int):∃(k p n:Int) (j:Nat) (h':Int),(ai ⟨k,p,n⟩=true∧j≤b.length)∧Does Tryz.prog 20 [.ptr 0 0] [curR b i h] (aY k p n) [curR b j h']:=by
 obtain⟨x,j,h1,⟨⟨x0,x1⟩,hj⟩,hx⟩:=ro hb i hi h (n:=8) (by omega);unfold curR curC at hx;have hc:x=0∨x=1∨x=2∨x=3∨x=4∨x=5∨x=6∨x=7:=by omega
 rcases hc with rfl|rfl|rfl|rfl|rfl|rfl|rfl|rfl
 ·refine⟨1,0,0,j,h1,⟨by kernel_rfl,hj⟩, ?_⟩
  refine zS Tryz.func20 ce ?_;unfold bL;unfold curR curC;refine zT ?_;(refine am [0] [] false (zd rfl) ?_ _ ?_ (hx) ?_ ?_;(focus (simp only[go_sem,seval,reduceCtorEq];done));(focus (simp only[go_sem,seval,reduceCtorEq];done));(focus (first|rfl|(simp only[go_sem,seval,reduceCtorEq];done))));simp(disch:=omega) only[go_sem,seval,reduceCtorEq];exact zX
 ·obtain⟨y,j2,h2,⟨hy1,hj2⟩,hy⟩:=eO hb j hj h1 (xs:=[2,3,7,97,1000003]) (by decide)
  unfold curR curC at hy;simp only[iv,List.map_cons,List.map_nil,Zl,zn,Nat.zero_add,Nat.reduceAdd]at hy;refine⟨2,y,0,j2,h2,⟨?_,hj2⟩, ?_⟩
  ·simp only[List.mem_cons,List.not_mem_nil,or_false]at hy1
   rcases hy1 with rfl|rfl|rfl|rfl|rfl<;>kernel_rfl
  ·refine zS Tryz.func20 ce ?_;unfold bL
   unfold curR curC;refine zT ?_;(refine am [0] [] false (zd rfl) ?_ _ ?_ (hx) ?_ ?_;(focus (simp only[go_sem,seval,reduceCtorEq];done));(focus (simp only[go_sem,seval,reduceCtorEq];done));(focus (first|rfl|(simp only[go_sem,seval,reduceCtorEq];done))));simp(disch:=omega) only[go_sem,seval,reduceCtorEq];(refine am [0,2] [] false (zd rfl) ?_ _ ?_ (hy) ?_ ?_;(focus (simp only[go_sem,seval,reduceCtorEq];done));(focus (simp only[go_sem,seval,reduceCtorEq];done));(focus (first|rfl|(simp only[go_sem,seval,reduceCtorEq];done))));simp(disch:=omega) only[go_sem,seval,reduceCtorEq];exact zX
 ·obtain⟨y,j2,h2,⟨hy1,hj2⟩,hy⟩:=eO hb j hj h1 (xs:=[1,2,9,40,1000000]) (by decide)
  unfold curR curC at hy;simp only[iv,List.map_cons,List.map_nil,Zl,zn,Nat.zero_add,Nat.reduceAdd]at hy;refine⟨3,y,0,j2,h2,⟨?_,hj2⟩, ?_⟩
  ·simp only[List.mem_cons,List.not_mem_nil,or_false]at hy1
   rcases hy1 with rfl|rfl|rfl|rfl|rfl<;>kernel_rfl
  ·refine zS Tryz.func20 ce ?_;unfold bL
   unfold curR curC;refine zT ?_;(refine am [0] [] false (zd rfl) ?_ _ ?_ (hx) ?_ ?_;(focus (simp only[go_sem,seval,reduceCtorEq];done));(focus (simp only[go_sem,seval,reduceCtorEq];done));(focus (first|rfl|(simp only[go_sem,seval,reduceCtorEq];done))));simp(disch:=omega) only[go_sem,seval,reduceCtorEq];(refine am [0,2] [] false (zd rfl) ?_ _ ?_ (hy) ?_ ?_;(focus (simp only[go_sem,seval,reduceCtorEq];done));(focus (simp only[go_sem,seval,reduceCtorEq];done));(focus (first|rfl|(simp only[go_sem,seval,reduceCtorEq];done))));simp(disch:=omega) only[go_sem,seval,reduceCtorEq];exact zX
 ·obtain⟨y,j2,h2,⟨hy1,hj2⟩,hy⟩:=eO hb j hj h1 (xs:=[1,2,9,40,1000000]) (by decide)
  unfold curR curC at hy;simp only[iv,List.map_cons,List.map_nil,Zl,zn,Nat.zero_add,Nat.reduceAdd]at hy;refine⟨4,y,0,j2,h2,⟨?_,hj2⟩, ?_⟩
  ·simp only[List.mem_cons,List.not_mem_nil,or_false]at hy1
   rcases hy1 with rfl|rfl|rfl|rfl|rfl<;>kernel_rfl
  ·refine zS Tryz.func20 ce ?_;unfold bL
   unfold curR curC;refine zT ?_;(refine am [0] [] false (zd rfl) ?_ _ ?_ (hx) ?_ ?_;(focus (simp only[go_sem,seval,reduceCtorEq];done));(focus (simp only[go_sem,seval,reduceCtorEq];done));(focus (first|rfl|(simp only[go_sem,seval,reduceCtorEq];done))));simp(disch:=omega) only[go_sem,seval,reduceCtorEq];(refine am [0,2] [] false (zd rfl) ?_ _ ?_ (hy) ?_ ?_;(focus (simp only[go_sem,seval,reduceCtorEq];done));(focus (simp only[go_sem,seval,reduceCtorEq];done));(focus (first|rfl|(simp only[go_sem,seval,reduceCtorEq];done))));simp(disch:=omega) only[go_sem,seval,reduceCtorEq];exact zX
 ·obtain⟨y,j2,h2,⟨hy1,hj2⟩,hy⟩:=eO hb j hj h1 (xs:=[1,2,9,40,1000000]) (by decide)
  unfold curR curC at hy;simp only[iv,List.map_cons,List.map_nil,Zl,zn,Nat.zero_add,Nat.reduceAdd]at hy;refine⟨5,y,0,j2,h2,⟨?_,hj2⟩, ?_⟩
  ·simp only[List.mem_cons,List.not_mem_nil,or_false]at hy1
   rcases hy1 with rfl|rfl|rfl|rfl|rfl<;>kernel_rfl
  ·refine zS Tryz.func20 ce ?_;unfold bL
   unfold curR curC;refine zT ?_;(refine am [0] [] false (zd rfl) ?_ _ ?_ (hx) ?_ ?_;(focus (simp only[go_sem,seval,reduceCtorEq];done));(focus (simp only[go_sem,seval,reduceCtorEq];done));(focus (first|rfl|(simp only[go_sem,seval,reduceCtorEq];done))));simp(disch:=omega) only[go_sem,seval,reduceCtorEq];(refine am [0,2] [] false (zd rfl) ?_ _ ?_ (hy) ?_ ?_;(focus (simp only[go_sem,seval,reduceCtorEq];done));(focus (simp only[go_sem,seval,reduceCtorEq];done));(focus (first|rfl|(simp only[go_sem,seval,reduceCtorEq];done))));simp(disch:=omega) only[go_sem,seval,reduceCtorEq];exact zX
 ·obtain⟨y,j2,h2,⟨hy1,hj2⟩,hy⟩:=eO hb j hj h1 (xs:=[1,3,5,20]) (by decide)
  unfold curR curC at hy;simp only[iv,List.map_cons,List.map_nil,Zl,zn,Nat.zero_add,Nat.reduceAdd]at hy;refine⟨6,0,y,j2,h2,⟨?_,hj2⟩, ?_⟩
  ·simp only[List.mem_cons,List.not_mem_nil,or_false]at hy1
   rcases hy1 with rfl|rfl|rfl|rfl<;>kernel_rfl
  ·refine zS Tryz.func20 ce ?_;unfold bL
   unfold curR curC;refine zT ?_;(refine am [0] [] false (zd rfl) ?_ _ ?_ (hx) ?_ ?_;(focus (simp only[go_sem,seval,reduceCtorEq];done));(focus (simp only[go_sem,seval,reduceCtorEq];done));(focus (first|rfl|(simp only[go_sem,seval,reduceCtorEq];done))));simp(disch:=omega) only[go_sem,seval,reduceCtorEq];(refine am [0,2] [] false (zd rfl) ?_ _ ?_ (hy) ?_ ?_;(focus (simp only[go_sem,seval,reduceCtorEq];done));(focus (simp only[go_sem,seval,reduceCtorEq];done));(focus (first|rfl|(simp only[go_sem,seval,reduceCtorEq];done))));simp(disch:=omega) only[go_sem,seval,reduceCtorEq];exact zX
 ·obtain⟨y,j2,h2,⟨hy1,hj2⟩,hy⟩:=eO hb j hj h1 (xs:=[2,5,101]) (by decide)
  obtain⟨z,j3,h3,⟨⟨z0,z1⟩,hj3⟩,hz⟩:=ro hb j2 hj2 h2 (n:=4) (by omega);unfold curR curC at hy hz;simp only[iv,List.map_cons,List.map_nil,Zl,zn,Nat.zero_add,Nat.reduceAdd]at hy;refine⟨7,y,1+z,j3,h3,⟨?_,hj3⟩, ?_⟩
  ·have key:∀y∈[2,5,101],∀z∈[0,1,2,3],ai ⟨7,y,1+z⟩=true:=by decide+kernel
   exact key y hy1 z (by simp only[List.mem_cons,List.not_mem_nil,or_false];omega)
  ·refine zS Tryz.func20 ce ?_;unfold bL
   unfold curR curC;refine zT ?_;(refine am [0] [] false (zd rfl) ?_ _ ?_ (hx) ?_ ?_;(focus (simp only[go_sem,seval,reduceCtorEq];done));(focus (simp only[go_sem,seval,reduceCtorEq];done));(focus (first|rfl|(simp only[go_sem,seval,reduceCtorEq];done))));simp(disch:=omega) only[go_sem,seval,reduceCtorEq];(refine am [0,2] [] false (zd rfl) ?_ _ ?_ (hy) ?_ ?_;(focus (simp only[go_sem,seval,reduceCtorEq];done));(focus (simp only[go_sem,seval,reduceCtorEq];done));(focus (first|rfl|(simp only[go_sem,seval,reduceCtorEq];done))));simp(disch:=omega) only[go_sem,seval,reduceCtorEq]
   (refine am [0] [] false (zd rfl) ?_ _ ?_ (hz) ?_ ?_;(focus (simp only[go_sem,seval,reduceCtorEq];done));(focus (simp only[go_sem,seval,reduceCtorEq];done));(focus (first|rfl|(simp only[go_sem,seval,reduceCtorEq];done))));simp(disch:=omega) only[go_sem,seval,reduceCtorEq];exact zX
 ·obtain⟨y,j2,h2,⟨hy1,hj2⟩,hy⟩:=eO hb j hj h1 (xs:=[3,17,97,1000003]) (by decide)
  unfold curR curC at hy;simp only[iv,List.map_cons,List.map_nil,Zl,zn,Nat.zero_add,Nat.reduceAdd]at hy;refine⟨8,y,0,j2,h2,⟨?_,hj2⟩, ?_⟩
  ·simp only[List.mem_cons,List.not_mem_nil,or_false]at hy1
   rcases hy1 with rfl|rfl|rfl|rfl<;>kernel_rfl
  ·refine zS Tryz.func20 ce ?_;unfold bL
   unfold curR curC;refine zT ?_;(refine am [0] [] false (zd rfl) ?_ _ ?_ (hx) ?_ ?_;(focus (simp only[go_sem,seval,reduceCtorEq];done));(focus (simp only[go_sem,seval,reduceCtorEq];done));(focus (first|rfl|(simp only[go_sem,seval,reduceCtorEq];done))));simp(disch:=omega) only[go_sem,seval,reduceCtorEq];(refine am [0,2] [] false (zd rfl) ?_ _ ?_ (hy) ?_ ?_;(focus (simp only[go_sem,seval,reduceCtorEq];done));(focus (simp only[go_sem,seval,reduceCtorEq];done));(focus (first|rfl|(simp only[go_sem,seval,reduceCtorEq];done))));simp(disch:=omega) only[go_sem,seval,reduceCtorEq];exact zX
theorem MakeRing_d{b:List Int}(hb:CodeOk b){m:Nat}(hm:m≤1000):∃k p n:Int,ai ⟨k,p,n⟩=true∧Does Tryz.prog 4 [.d (bytes b),.d (.int m)] [] (aY k p n) []:=by
 obtain⟨i,h,hi,hd⟩:=sD hb hm;obtain⟨k,p,n,j,h',⟨hr,hj⟩,hx⟩:=FK hb i hi h;refine⟨k,p,n,hr, ?_⟩;refine zS Tryz.func4 vG ?_;unfold nV;unfold curR curC at hd hx;refine zT ?_;(refine zC (hd) ?_);simp only[go_sem,seval,reduceCtorEq];(refine am [1] [] false (zd rfl) ?_ _ ?_ (hx) ?_ ?_;(focus (simp only[go_sem,seval,reduceCtorEq];done));(focus (simp only[go_sem,seval,reduceCtorEq];done));(focus (first|rfl|(simp only[go_sem,seval,reduceCtorEq];done))));simp(disch:=omega) only[go_sem,seval,reduceCtorEq];exact zX
end Go.Proofs.YtobhmajhachnaaaGreatDoor
namespace Go.Proofs.YtobhmajhachnaaaGreatDoor
open Go.RowKit Go.Lift Go.ChangeShapes Go.WideShapes Plain
set_option maxRecDepth 100000
theorem FX{d:D}(h:HasD d .byte):∃n,d=.byte n∧0≤n∧n≤255:=by
 cases d<;>simp only[HasD]at h
 exact⟨_,rfl,h⟩
theorem vk:∀{l:List D} {j:Nat},HasDL l j [.byte]→∃xs:List Int,l=dby xs∧∀x∈xs,0≤x∧x≤255
 | [],_,_=>⟨[],rfl,by simp⟩
 |x :: l,j,h=>by
  simp only[HasDL,Zl,zn,Nat.zero_add,Nat.mod_one,List.getD_cons_zero]at h;obtain⟨n,rfl,hn⟩:=FX h.1;obtain⟨xs,rfl,hx⟩:=vk h.2;exact⟨n :: xs,rfl,by simpa using⟨hn,hx⟩⟩
theorem DA{d:D}(h:HasD d (.sl [.byte])):∃xs:List Int,d=bytes xs∧xs.length≤9223372036854775807∧∀x∈xs,0≤x∧x≤255:=by
 cases d<;>simp only[HasD]at h
 obtain⟨h1,h2,h3⟩:=h;obtain⟨xs,rfl,hx⟩:=vk h3;simp only[dby,List.length_map,Zl,zn,Nat.zero_add,Nat.mul_one]at h2;subst h2;exact⟨xs,rfl,h1,hx⟩
structure BytIn(w:World)(v:Value)(b:List Int):Prop where
 rel:Rel w (topL w) id (at_ []) (.d (bytes b)) v
 len:b.length≤9223372036854775807
 wf:∀x∈b,0≤x∧x≤255
section
variable {H : Type} {enc : TypeId × Value → H} {w : World} {base : Nat} {held : Bool} {r : Reach}
theorem Dk{b0:Nat}{v:Value}{d:DataW H}{p:List MemPlace}(hv:Value.okWide Tryz.prog w r b0 22 v)(h:DataW.Trod enc Tryz.prog w base (fun _=>true) held 22 v d p):
  ∃b,BytIn w v b:=by
 obtain⟨A,n,c,rfl⟩:=okWide_slice Tryz.underlying22 hv;obtain⟨fuel,hf⟩:=h;obtain⟨ds,hR⟩:=wJ 5 22 [.sl [.byte]] (by kernel_rfl) fuel [.slice A n c] _ hf (by kernel_rfl);obtain⟨h1,h2,h3⟩:=hR
 match ds,h1 with
 | [d0],_=>
  obtain⟨d',e1,e2,e3⟩:=h3 0 _ (.sl [.byte]) rfl rfl;simp only[List.getElem?_cons_zero,zj]at e1;subst e1;obtain⟨b,rfl,hl,hs⟩:=DA e3;exact⟨b,by rw[Rel];exact e2,hl,hs⟩
end
end Go.Proofs.YtobhmajhachnaaaGreatDoor
namespace Go.Proofs.YtobhmajhachnaaaGreatDoor
open Go.RowKit Go.Lift Plain
set_option maxRecDepth 100000
structure Cur where
 i:Nat
 h:Int
def curS(b:List Int)(c:Cur):Option Root:=curR b c.i c.h
def m8(b:List Int)(c:Cur):Int × Cur:=if c.i<b.length then (a255 (gX (gH c.h)+b.getD c.i 0),⟨c.i+1,gH c.h⟩) else (gX (gH c.h),⟨c.i,gH c.h⟩)
def aw(b:List Int)(n:Int)(c:Cur):Int × Cur:=((m8 b c).1 % n,(m8 b c).2)
def kF(b:List Int)(n:Int)(c:Cur):Bool × Cur:=((aw b n c).1==0,(aw b n c).2)
theorem Iz{b:List Int}(c:Cur):0≤(m8 b c).1∧(m8 b c).1≤255:=by
 unfold m8;split
 ·exact qp _
 ·exact qp _
theorem CF{b:List Int}{c:Cur}(h:c.i≤b.length):(m8 b c).2.i≤b.length:=by
 unfold m8;split
 ·rename_i h;exact h
 ·exact h
theorem cF{b:List Int}{n:Int}(hn:1≤n)(c:Cur):0≤(aw b n c).1∧(aw b n c).1<n:=⟨Int.emod_nonneg _ (by omega),Int.emod_lt_of_pos _ (by omega)⟩
theorem d4{b:List Int}{n:Int}{c:Cur}(h:c.i≤b.length):(aw b n c).2.i≤b.length:=CF h
theorem CA{b:List Int}{n:Int}{c:Cur}(h:c.i≤b.length):(kF b n c).2.i≤b.length:=CF h
theorem KB{b:List Int}(hb:CodeOk b){c:Cur}(hi:c.i≤b.length):Does Tryz.prog 69 [.ptr 0 0] [curS b c] (.d (.int (m8 b c).1)) [curS b (m8 b c).2]:=by
 obtain⟨i,h⟩:=c;simp only at hi;have hl:=hb.len;have g1:IntKind.i64.wrap (IntKind.i64.wrap (h*6364136223846793005)+1442695040888963407)=gH h:=rfl;have g2:IntKind.i64.wrap ((BitVec.ofInt 64 (IntKind.i64.wrap ((BitVec.ofInt 64 ((gH h).fdiv (2 ^ (min 33 64))) ^^^ BitVec.ofInt 64 ((gH h).fdiv (2 ^ (min 45 64)))).toNat:Int))&&& 255#64).toNat:Int)=gX (gH h):=rfl;have g3:=qp (IntKind.i64.wrap ((BitVec.ofInt 64 ((gH h).fdiv (2 ^ (min 33 64))) ^^^ BitVec.ofInt 64 ((gH h).fdiv (2 ^ (min 45 64)))).toNat:Int));change 0≤gX (gH h)∧gX (gH h)≤255 at g3;by_cases hlt:i<b.length
 ·have d1:(i:Int)<b.length:=by omega
  have g:b[i]? =some b[i]:=zg hlt;have hw:=hb.wf b[i] (List.getElem_mem _);have g4:IntKind.i64.wrap ((BitVec.ofInt 64 (gX (gH h)+b[i])&&& 255#64).toNat:Int)=a255 (gX (gH h)+b[i]):=rfl;have g5:(i:Int)+1=((i+1:Nat):Int):=by omega
  have e:m8 b ⟨i,h⟩=(a255 (gX (gH h)+b[i]),⟨i+1,gH h⟩):=by unfold m8;rw[if_pos hlt,ac hlt]
  rw[e];refine zS Tryz.func69 fw ?_;unfold dV;unfold curS curR curC bytes;refine zT ?_;simp(disch:=omega) only[go_sem,seval,reduceCtorEq,g1,g2,d1,g,g4,g5,Option.map_some];exact zX
 ·have d1:¬(i:Int)<b.length:=by omega
  have e:m8 b ⟨i,h⟩=(gX (gH h),⟨i,gH h⟩):=by unfold m8;rw[if_neg hlt]
  rw[e];refine zS Tryz.func69 fw ?_;unfold dV;unfold curS curR curC bytes;refine zT ?_;simp(disch:=omega) only[go_sem,seval,reduceCtorEq,g1,g2,d1];exact zX
theorem gF{b:List Int}(hb:CodeOk b){c:Cur}(hi:c.i≤b.length){n:Int}(hn:1≤n∧n≤1048576):Does Tryz.prog 54 [.ptr 0 0,.d (.int n)] [curS b c] (.d (.int (aw b n c).1)) [curS b (aw b n c).2]:=by
 have hd:=KB hb hi;have hx:=Iz (b:=b) c;have e:=Int.tmod_eq_emod_of_nonneg hx.1 (b:=n);have d0:¬ n≤0:=by omega
 have d1:n≠0:=by omega
 refine zS Tryz.func54 ns ?_;unfold hU;unfold aw;unfold curS curR curC at hd ⊢;refine zT ?_;simp only[go_sem,seval,reduceCtorEq,d0];(refine am [0] [] false (zd rfl) ?_ _ ?_ (hd) ?_ ?_;(focus (simp only[go_sem,seval,reduceCtorEq];done));(focus (simp only[go_sem,seval,reduceCtorEq];done));(focus (first|rfl|(simp only[go_sem,seval,reduceCtorEq];done))));simp only[go_sem,seval,reduceCtorEq,e,d1]
 (repeat (refine And.intro (by omega) ?_))
 exact zX
theorem ED{b:List Int}(hb:CodeOk b){c:Cur}(hi:c.i≤b.length){n:Int}(hn:1≤n∧n≤1048576):Does Tryz.prog 59 [.ptr 0 0,.d (.int n)] [curS b c] (.d (.bool (kF b n c).1)) [curS b (kF b n c).2]:=by
 have hd:=gF hb hi hn;refine zS Tryz.func59 xl ?_;unfold pK;unfold kF;unfold curS curR curC at hd ⊢;refine zT ?_;(refine am [0] [] false (zd rfl) ?_ _ ?_ (hd) ?_ ?_;(focus (simp only[go_sem,seval,reduceCtorEq];done));(focus (simp only[go_sem,seval,reduceCtorEq];done));(focus (first|rfl|(simp only[go_sem,seval,reduceCtorEq];done))));simp only[go_sem,seval,reduceCtorEq];exact zX
def swp(xs:List Int)(i k:Nat):List Int:=(xs.set i (xs.getD k 0)).set k (xs.getD i 0)
def bf(b:List Int)(c:Cur)(xs:List Int):Nat→Cur × List Int
 |0=>(c,xs)
 |i+1=>((aw b (i+1:Nat) (bf b c xs i).1).2,swp (bf b c xs i).2 i (aw b (i+1:Nat) (bf b c xs i).1).1.toNat)
theorem JA(xs:List Int)(i k:Nat):(swp xs i k).length=xs.length:=by simp [swp]
theorem eX(b:List Int)(c:Cur)(xs:List Int):∀i,(bf b c xs i).2.length=xs.length
 |0=>rfl
 |i+1=>by show (swp _ _ _).length=_;rw[JA,eX b c xs i]
theorem oQ{b:List Int}{c:Cur}(h:c.i≤b.length)(xs:List Int):∀i,(bf b c xs i).1.i≤b.length
 |0=>h
 |i+1=>d4 (n:=((i+1:Nat):Int)) (oQ h xs i)
theorem GA{xs:List Int}{i k:Nat}(hi:i<xs.length)(hk:k<xs.length):(swp xs i k).Perm xs:=by
 unfold swp;rw[ac hi,ac hk];exact List.set_set_perm hi hk
theorem jk{b:List Int}(c:Cur)(xs:List Int):∀i,i≤xs.length→(bf b c xs i).2.Perm xs
 |0,_=>List.Perm.refl _
 |i+1,h=>by
  have hl:=eX b c xs i;have hb:=cF (b:=b) (n:=((i+1:Nat):Int)) (by omega) (bf b c xs i).1
  exact(GA (by omega) (by omega)).trans (jk c xs i (by omega))
theorem sE{b:List Int}(hb:CodeOk b){c:Cur}(hi:c.i≤b.length){xs:List Int}(hn:xs.length≤1048576):
  Does Tryz.prog 24 [.ptr 0 0,.own 1 0 xs.length] [curS b c,some ⟨1,false,iv xs⟩] (.own 2 0 xs.length) [curS b (bf b c xs xs.length).1,some ⟨1,false,iv xs⟩,some ⟨1,true,iv (bf b c xs xs.length).2⟩]:=by
 refine zS Tryz.func24 kE ?_;unfold fH;unfold curS curR curC;refine zT ?_;(refine zC (qb (xs:=xs) (by omega)) ?_);simp only[go_sem,seval,reduceCtorEq];have e0:(bf b c xs 0).1=c:=rfl;have e1:(bf b c xs 0).2=xs:=rfl;refine aA (xs.length) (mkB 37 68719460800) (fun k=>[(13,.d (.int k))]) (fun k=>[(0,curC b (bf b c xs k).1.i (bf b c xs k).1.h),(2,iv (bf b c xs k).2)]) (h1:=by first|(simp only[go_sem,seval,reduceCtorEq,nz,na,n1,e0,e1,curC];first|done|rfl)|rfl) (h2:=by first|(simp only[go_sem,seval,reduceCtorEq,nz,na,n1,e0,e1,curC];first|done|rfl)|rfl) (hr:=fun k hk=> ?_);unfold eR
 by_cases hlt:k<xs.length
 ·have d1:(k:Int)<xs.length:=by omega
  have hs:bf b c xs (k+1)=((aw b (k+1:Nat) (bf b c xs k).1).2,swp (bf b c xs k).2 k (aw b (k+1:Nat) (bf b c xs k).1).1.toNat):=rfl;have hl:=eX b c xs k;have hck:=oQ hi xs k;generalize bf b c xs k=S at hs hl hck;obtain⟨c1,L⟩:=S;simp only at hl hck hs;have hr:=cF (b:=b) (n:=((k+1:Nat):Int)) (by omega) c1;have hd:=gF hb hck (n:=((k+1:Nat):Int)) (by omega);generalize aw b ((k+1:Nat):Int) c1=T at hr hd hs;obtain⟨r,c2⟩:=T;simp only at hr hd hs;obtain⟨q,rfl⟩:=Int.eq_ofNat_of_zero_le hr.1;have hq:q<L.length:=by omega
  have hk:k<L.length:=by omega
  have g1:L[k]? =some L[k]:=zg hk;have g2:L[q]? =some L[q]:=zg hq;have d2:(k:Int)+1=((k+1:Nat):Int):=by omega
  have d3:(q:Int)<L.length:=by omega
  have hsw:swp L k q=(L.set k L[q]).set q L[k]:=by unfold swp;rw[ac hk,ac hq]
  have p1:=cW (xs:=L) (x:=L[q]) hk;have p2:=cW (xs:=L.set k L[q]) (x:=L[k]) (n:=q) (by rw[List.length_set];exact hq);have e1:(bf b c xs (k+1)).1=c2:=by rw[hs]
  have e2:(bf b c xs (k+1)).2=(L.set k L[q]).set q L[k]:=by rw[hs];simp only[Int.toNat_natCast,hsw]
  unfold curS curR curC at hd;simp(disch:=omega) only[go_sem,seval,reduceCtorEq,d1,curC,d2];(refine am [0] [] false (zd rfl) ?_ _ ?_ (hd) ?_ ?_;(focus (simp only[go_sem,seval,reduceCtorEq];done));(focus (simp only[go_sem,seval,reduceCtorEq];done));(focus (first|rfl|(simp only[go_sem,seval,reduceCtorEq];done))));simp(disch:=omega) only[go_sem,seval,reduceCtorEq,g1,g2,Option.map_some,p1,p2,List.length_set,hl]
  (repeat (refine And.intro (by omega) ?_))
  (refine Next.drop (mkB 37 68719460800) (by omega) (h1:= ?_) (h2:= ?_)<;>first|(simp only[go_sem,seval,reduceCtorEq,nz,na,n1,e1,e2,curC];first|done|rfl)|rfl|skip)
 ·have d1:¬(k:Int)<xs.length:=by omega
  have hk:k=xs.length:=by omega
  subst hk;simp(disch:=omega) only[go_sem,seval,reduceCtorEq,d1,curC];exact zX
def gLab(b:List Int)(n:Int)(c:Cur):Nat→Cur × List Int
 |0=>(c,[])
 |k+1=>((aw b n (gLab b n c k).1).2,if (aw b n (gLab b n c k).1).1∈(gLab b n c k).2 then (gLab b n c k).2 else (gLab b n c k).2++[(aw b n (gLab b n c k).1).1])
def dimL(x:Int):Int:=1+(x+1) % 3
def bB(ls:List Int):List Int:=ls.map dimL
theorem j6(ls:List Int):(bB ls).length=ls.length:=by simp [bB]
theorem AT{b:List Int}{n:Int}{c:Cur}(h:c.i≤b.length):∀k,(gLab b n c k).1.i≤b.length
 |0=>h
 |k+1=>d4 (n:=n) (AT h k)
theorem w9{b:List Int}{n:Int}(hn:1≤n)(c:Cur):∀k,∀x∈(gLab b n c k).2,0≤x∧x<n
 |0,x,h=>by simp [gLab]at h
 |k+1,x,h=>by
  simp only[gLab]at h;split at h
  ·exact w9 hn c k x h
  ·rcases List.mem_append.1 h with h|h
   ·exact w9 hn c k x h
   ·rw[List.mem_singleton.1 h]
    exact cF hn _
theorem n5(b:List Int)(n:Int)(c:Cur):∀k,(gLab b n c k).2.Nodup
 |0=>by simp [gLab]
 |k+1=>by
  simp only[gLab];split
  ·exact n5 b n c k
  ·rename_i h
   exact List.nodup_append.2 ⟨n5 b n c k,by simp,fun x hx y hy e=>h (by rw[← List.mem_singleton.1 hy, ← e];exact hx)⟩
theorem tf(b:List Int)(n:Int)(c:Cur):∀k,(gLab b n c k).2.length≤k
 |0=>by simp [gLab]
 |k+1=>by
  have:=tf b n c k;simp only[gLab];split
  ·omega
  ·simp;omega
def bW(b:List Int)(c:Cur):Cur × List Int:=gLab b 6 (aw b 4 c).2 (aw b 4 c).1.toNat
theorem Ci{b:List Int}(hb:CodeOk b){c:Cur}(hi:c.i≤b.length):
  Does Tryz.prog 96 [.ptr 0 0,.d (.int 6),.d (.int 3)] [curS b c] (.tup [.own 1 0 (bW b c).2.length,.own 2 0 (bW b c).2.length])
   [curS b (bW b c).1,some ⟨1,true,iv (bW b c).2⟩,some ⟨1,true,iv (bB (bW b c).2)⟩]:=by
 have h0:=gF hb hi (n:=4) (by omega);have hr0:=cF (b:=b) (n:=4) (by omega) c;have hc0:=d4 (n:=4) hi;refine zS Tryz.func96 um ?_;unfold mt;unfold bW;generalize aw b 4 c=T0 at h0 hr0 hc0;obtain⟨m0,c0⟩:=T0;simp only at h0 hr0 hc0;obtain⟨m,rfl⟩:=Int.eq_ofNat_of_zero_le hr0.1;simp only[Int.toNat_natCast];unfold curS curR curC at h0 ⊢;refine zT ?_;(refine am [0] [] false (zd rfl) ?_ _ ?_ (h0) ?_ ?_;(focus (simp only[go_sem,seval,reduceCtorEq];done));(focus (simp only[go_sem,seval,reduceCtorEq];done));(focus (first|rfl|(simp only[go_sem,seval,reduceCtorEq];done))))
 simp(disch:=omega) only[go_sem,seval,reduceCtorEq];have e0:gLab b 6 c0 0=(c0,[]):=rfl;refine aA (m) (mkB 42 1099511379968) (fun k=>[(8,.own 1 0 (gLab b 6 c0 k).2.length),(9,.own 2 0 (gLab b 6 c0 k).2.length),(10,.d (.int ((m:Int)-k)))]) (fun k=>[(0,curC b (gLab b 6 c0 k).1.i (gLab b 6 c0 k).1.h),(1,iv (gLab b 6 c0 k).2),(2,iv (bB (gLab b 6 c0 k).2))]) (h1:=by first|(simp only[go_sem,seval,reduceCtorEq,nz,na,n1,e0,curC,br,bB];first|done|rfl)|rfl) (h2:=by first|(simp only[go_sem,seval,reduceCtorEq,nz,na,n1,e0,curC,br,bB];first|done|rfl)|rfl) (hr:=fun k hk=> ?_);unfold kW;by_cases hlt:k<m
 ·have d1:(m:Int)-k>0:=by omega
  have hs:gLab b 6 c0 (k+1)=((aw b 6 (gLab b 6 c0 k).1).2,if (aw b 6 (gLab b 6 c0 k).1).1∈(gLab b 6 c0 k).2 then (gLab b 6 c0 k).2 else (gLab b 6 c0 k).2++[(aw b 6 (gLab b 6 c0 k).1).1]):=rfl;have hl:=tf b 6 c0 k;have hck:=AT (n:=6) hc0 k;generalize gLab b 6 c0 k=S at hs hl hck;obtain⟨c1,L⟩:=S;simp only at hl hck hs;have hr:=cF (b:=b) (n:=6) (by omega) c1;have hd:=gF hb hck (n:=6) (by omega);generalize aw b 6 c1=T at hr hd hs;obtain⟨x,c2⟩:=T;simp only at hr hd hs;have e1:(gLab b 6 c0 (k+1)).1=c2:=by rw[hs]
  have d5:(m:Int)-k-1=(m:Int)-((k+1:Nat):Int):=by omega
  unfold curS curR curC at hd;simp(disch:=omega) only[go_sem,seval,reduceCtorEq,d1,curC,bB];(refine am [0] [] false (zd rfl) ?_ _ ?_ (hd) ?_ ?_;(focus (simp only[go_sem,seval,reduceCtorEq];done));(focus (simp only[go_sem,seval,reduceCtorEq];done));(focus (first|rfl|(simp only[go_sem,seval,reduceCtorEq];done))));simp(disch:=omega) only[go_sem,seval,reduceCtorEq];(refine zC (iY (xs:=L) (x:=x) (by omega)) ?_);simp(disch:=omega) only[go_sem,seval,reduceCtorEq];by_cases hm:x∈L
  ·have d2:¬ place L x<0:=fun h=>cx.1 h hm
   have e2:(gLab b 6 c0 (k+1)).2=L:=by rw[hs];exact if_pos hm
   simp(disch:=omega) only[go_sem,seval,reduceCtorEq,d2,d5];(refine Next.drop (mkB 42 1099511379968) (by omega) (h1:= ?_) (h2:= ?_)<;>first|(simp only[go_sem,seval,reduceCtorEq,nz,na,n1,e1,e2,curC,bB];first|done|rfl)|rfl|skip)
  ·have d2:place L x<0:=cx.2 hm
   have e2:(gLab b 6 c0 (k+1)).2=L++[x]:=by rw[hs];exact if_neg hm
   have e3:List.map dimL (L++[x])=L.map dimL++[1+(x+1) % 3]:=by simp [dimL]
   have e4:=Int.tmod_eq_emod_of_nonneg (a:=x+1) (b:=3) (by omega);simp(disch:=omega) only[go_sem,seval,reduceCtorEq,d2,d5,e4];have el:(L++[x]).length=L.length+1:=by simp
   (repeat (refine And.intro (by omega) ?_))
   (refine Next.drop (mkB 42 1099511379968) (by omega) (h1:= ?_) (h2:= ?_)<;>first|(simp only[go_sem,seval,reduceCtorEq,nz,na,n1,e1,e2,e3,el,curC,bB];first|done|rfl)|rfl|skip)
 ·have d1:¬(m:Int)-k>0:=by omega
  have hk:k=m:=by omega
  subst hk;simp(disch:=omega) only[go_sem,seval,reduceCtorEq,d1,curC,bB];exact zX
set_option maxRecDepth 100000
def oneE(r:Rg)(wd:Nat):List Int:=(List.replicate wd 0).set 0 (if r.k=5∨r.k=6 then top r else if r.k=4 then 0 else 1)
theorem gC(r:Rg)(wd:Nat):(oneE r wd).length=wd:=by simp [oneE]
theorem gB{wd:Nat}(h:1≤wd)(x:Int):AV.d (.int x) :: iv (List.drop 1 (List.replicate wd 0))=iv ((List.replicate wd 0).set 0 x):=by
 obtain⟨n,rfl⟩:∃n,wd=n+1:=⟨wd-1,by omega⟩;simp [iv,List.replicate_succ]
theorem zu{kk pp nn:Int}{wd:Nat}(hr:ai ⟨kk,pp,nn⟩=true)(hw:af ⟨kk,pp,nn⟩=wd)(h1:1≤wd∧wd≤6):Does Tryz.prog 116 [aY kk pp nn] [] (.own 0 0 wd) [some ⟨1,true,iv (oneE ⟨kk,pp,nn⟩ wd)⟩]:=by
 have hlr:(List.replicate wd (0:Int)).length=wd:=List.length_replicate;refine zS Tryz.func116 yh ?_;unfold qR;refine zT ?_;(refine zC (fW kk pp nn) ?_ (by simp only[go_sem,seval,reduceCtorEq,hw]));simp(disch:=omega) only[go_sem,seval,reduceCtorEq,hw];refine And.intro ⟨by omega,by omega⟩ ?_;by_cases h5:kk=5
 ·have c:(kk==5)=true:=by simp [h5]
  have e:oneE ⟨kk,pp,nn⟩ wd=(List.replicate wd 0).set 0 (top ⟨kk,pp,nn⟩):=by unfold oneE;rw[if_pos (.inl h5)]
  have e2:=gB h1.1 (top ⟨kk,pp,nn⟩);simp(disch:=omega) only[go_sem,seval,reduceCtorEq,c];(refine zC (oH kk pp nn hr) ?_);simp(disch:=omega) only[go_sem,seval,reduceCtorEq];refine⟨by omega,by rw[hlr];omega, ?_⟩;rw[e2, ← e];exact zX
 have c5:(kk==5)=false:=by simp [h5]
 by_cases h6:kk=6
 ·have c:(kk==6)=true:=by simp [h6]
  have e:oneE ⟨kk,pp,nn⟩ wd=(List.replicate wd 0).set 0 (top ⟨kk,pp,nn⟩):=by unfold oneE;rw[if_pos (.inr h6)]
  have e2:=gB h1.1 (top ⟨kk,pp,nn⟩);simp(disch:=omega) only[go_sem,seval,reduceCtorEq,c5,c];(refine zC (oH kk pp nn hr) ?_);simp(disch:=omega) only[go_sem,seval,reduceCtorEq];refine⟨by omega,by rw[hlr];omega, ?_⟩;rw[e2, ← e];exact zX
 have c6:(kk==6)=false:=by simp [h6]
 by_cases h4:kk=4
 ·have c:(kk==4)=true:=by simp [h4]
  have e:oneE ⟨kk,pp,nn⟩ wd=(List.replicate wd 0).set 0 0:=by unfold oneE;rw[if_neg (fun h=>h.elim h5 h6),if_pos h4]
  have e2:=gB h1.1 0;simp(disch:=omega) only[go_sem,seval,reduceCtorEq,c5,c6,c];refine⟨by omega,by rw[hlr];omega, ?_⟩;rw[e2, ← e];exact zX
 ·have c:(kk==4)=false:=by simp [h4]
  have e:oneE ⟨kk,pp,nn⟩ wd=(List.replicate wd 0).set 0 1:=by unfold oneE;rw[if_neg (fun h=>h.elim h5 h6),if_neg h4]
  have e2:=gB h1.1 1;simp(disch:=omega) only[go_sem,seval,reduceCtorEq,c5,c6,c];refine⟨by omega,by rw[hlr];omega, ?_⟩;rw[e2, ← e];exact zX
def gEl(b:List Int)(T:Int)(wd:Nat)(c:Cur):Nat→Cur × List Int
 |0=>(c,List.replicate wd 0)
 |k+1=>((kF b 12 (aw b (min 256 (T+1)) (gEl b T wd c k).1).2).2,
   (gEl b T wd c k).2.set k (if (kF b 12 (aw b (min 256 (T+1)) (gEl b T wd c k).1).2).1=true then T else (aw b (min 256 (T+1)) (gEl b T wd c k).1).1))
theorem AU(b:List Int)(T:Int)(wd:Nat)(c:Cur):∀k,(gEl b T wd c k).2.length=wd
 |0=>by simp [gEl]
 |k+1=>by simp only[gEl,List.length_set];exact AU b T wd c k
theorem DE{b:List Int}{T:Int}{wd:Nat}{c:Cur}(h:c.i≤b.length):∀k,(gEl b T wd c k).1.i≤b.length
 |0=>h
 |k+1=>CA (n:=12) (d4 (n:=min 256 (T+1)) (DE h k))
def kH(b:List Int)(r:Rg)(wd:Nat)(c:Cur):Cur × List Int:=
 if (aw b 6 c).1=0 then ((aw b 6 c).2,aq r.k r.p wd) else if (aw b 6 c).1=1 then ((aw b 6 c).2,oneE r wd) else gEl b (top r) wd (aw b 6 c).2 wd
theorem Iy{b:List Int}{r:Rg}{wd:Nat}{c:Cur}(h:c.i≤b.length):(kH b r wd c).1.i≤b.length:=by
 unfold kH;split
 ·exact d4 (n:=6) h
 ·split
  ·exact d4 (n:=6) h
  ·exact DE (d4 (n:=6) h) _
theorem zA{b:List Int}{r:Rg}{wd:Nat}{c:Cur}:(kH b r wd c).2.length=wd:=by
 unfold kH;split
 ·exact bz _ _ _
 ·split
  ·exact gC _ _
  ·exact AU _ _ _ _ _
set_option maxHeartbeats 800000 in
theorem FL{b:List Int}(hb:CodeOk b){c:Cur}(hi:c.i≤b.length){kk pp nn:Int}{wd:Nat}(hr:ai ⟨kk,pp,nn⟩=true)(hw:af ⟨kk,pp,nn⟩=wd)(h1:1≤wd∧wd≤6):
  Does Tryz.prog 132 [.ptr 0 0,aY kk pp nn] [curS b c] (.own 1 0 wd) [curS b (kH b ⟨kk,pp,nn⟩ wd c).1,some ⟨1,true,iv (kH b ⟨kk,pp,nn⟩ wd c).2⟩]:=by
 have h0:=gF hb hi (n:=6) (by omega);have hr0:=cF (b:=b) (n:=6) (by omega) c;have hc0:=d4 (n:=6) hi;have ht:=dA hr;have hg:kH b ⟨kk,pp,nn⟩ wd c=if (aw b 6 c).1=0 then ((aw b 6 c).2,aq kk pp wd) else if (aw b 6 c).1=1 then ((aw b 6 c).2,oneE ⟨kk,pp,nn⟩ wd) else gEl b (top ⟨kk,pp,nn⟩) wd (aw b 6 c).2 wd:=rfl
 rw[hg];generalize aw b 6 c=T0 at h0 hr0 hc0;obtain⟨x,c0⟩:=T0;simp only at h0 hr0 hc0 ⊢;refine zS Tryz.func132 xj ?_;unfold pH;unfold curS curR curC at h0 ⊢;refine zT ?_;(refine am [0] [] false (zd rfl) ?_ _ ?_ (h0) ?_ ?_;(focus (simp only[go_sem,seval,reduceCtorEq];done));(focus (simp only[go_sem,seval,reduceCtorEq];done));(focus (first|rfl|(simp only[go_sem,seval,reduceCtorEq];done))));simp(disch:=omega) only[go_sem,seval,reduceCtorEq];by_cases hx0:x=0
 ·have d:(x==0)=true:=by simp [hx0]
  simp only[if_pos hx0];simp(disch:=omega) only[go_sem,seval,reduceCtorEq,d];(refine zC (zr (kk:=kk) (pp:=pp) (nn:=nn) hw h1) ?_);simp(disch:=omega) only[go_sem,seval,reduceCtorEq];exact zX
 have d0:(x==0)=false:=by simp [hx0]
 by_cases hx1:x=1
 ·have d:(x==1)=true:=by simp [hx1]
  simp only[if_neg hx0,if_pos hx1];simp(disch:=omega) only[go_sem,seval,reduceCtorEq,d0,d];(refine zC (zu (kk:=kk) (pp:=pp) (nn:=nn) hr hw h1) ?_);simp(disch:=omega) only[go_sem,seval,reduceCtorEq];exact zX
 have d1:(x==1)=false:=by simp [hx1]
 simp only[if_neg hx0,if_neg hx1];simp(disch:=omega) only[go_sem,seval,reduceCtorEq,d0,d1];(refine zC (fW kk pp nn) ?_ (by simp only[go_sem,seval,reduceCtorEq,hw]));simp(disch:=omega) only[go_sem,seval,reduceCtorEq,hw];refine And.intro ⟨by omega,by omega⟩ ?_;have e0:gEl b (top ⟨kk,pp,nn⟩) wd c0 0=(c0,List.replicate wd 0):=rfl
 refine aA (wd) (mkB 43 4398038122560) (fun k=>[(22,.d (.int k))]) (fun k=>[(0,curC b (gEl b (top ⟨kk,pp,nn⟩) wd c0 k).1.i (gEl b (top ⟨kk,pp,nn⟩) wd c0 k).1.h),(2,iv (gEl b (top ⟨kk,pp,nn⟩) wd c0 k).2)]) (h1:=by first|(simp only[go_sem,seval,reduceCtorEq,nz,na,n1,e0,curC];first|done|rfl)|rfl) (h2:=by first|(simp only[go_sem,seval,reduceCtorEq,nz,na,n1,e0,curC];first|done|rfl)|rfl) (hr:=fun k hk=> ?_);unfold nI;by_cases hlt:k<wd
 ·have q1:(k:Int)<wd:=by omega
  have hs:gEl b (top ⟨kk,pp,nn⟩) wd c0 (k+1)=((kF b 12 (aw b (min 256 (top ⟨kk,pp,nn⟩+1)) (gEl b (top ⟨kk,pp,nn⟩) wd c0 k).1).2).2,
   (gEl b (top ⟨kk,pp,nn⟩) wd c0 k).2.set k (if (kF b 12 (aw b (min 256 (top ⟨kk,pp,nn⟩+1)) (gEl b (top ⟨kk,pp,nn⟩) wd c0 k).1).2).1=true then top ⟨kk,pp,nn⟩ else (aw b (min 256 (top ⟨kk,pp,nn⟩+1)) (gEl b (top ⟨kk,pp,nn⟩) wd c0 k).1).1)):=rfl
  have hl:=AU b (top ⟨kk,pp,nn⟩) wd c0 k;have hck:=DE (T:=top ⟨kk,pp,nn⟩) (wd:=wd) hc0 k;generalize gEl b (top ⟨kk,pp,nn⟩) wd c0 k=S at hs hl hck;obtain⟨c1,L⟩:=S;simp only at hl hck hs;have hd1:=gF hb hck (n:=min 256 (top ⟨kk,pp,nn⟩+1)) (by omega);have hk1:=d4 (n:=min 256 (top ⟨kk,pp,nn⟩+1)) hck;generalize aw b (min 256 (top ⟨kk,pp,nn⟩+1)) c1=T at hd1 hk1 hs;obtain⟨y,c2⟩:=T;simp only at hd1 hk1 hs;have hd2:=ED hb hk1 (n:=12) (by omega);generalize kF b 12 c2=U at hd2 hs;obtain⟨o,c3⟩:=U;simp only at hd2 hs;have e1:(gEl b (top ⟨kk,pp,nn⟩) wd c0 (k+1)).1=c3:=by rw[hs]
  have hk:k<L.length:=by omega
  have p1:=cW (xs:=L) (x:=y) hk;unfold curS curR curC at hd1 hd2;simp(disch:=omega) only[go_sem,seval,reduceCtorEq,q1,curC];(refine zC (oH kk pp nn hr) ?_);simp(disch:=omega) only[go_sem,seval,reduceCtorEq];(refine am [0] [] false (zd rfl) ?_ _ ?_ (hd1) ?_ ?_;(focus (simp only[go_sem,seval,reduceCtorEq];done));(focus (simp only[go_sem,seval,reduceCtorEq];done));(focus (first|rfl|(simp only[go_sem,seval,reduceCtorEq];done))));simp(disch:=omega) only[go_sem,seval,reduceCtorEq,p1,hl]
  (repeat (refine And.intro (by omega) ?_))
  (refine am [0] [] false (zd rfl) ?_ _ ?_ (hd2) ?_ ?_;(focus (simp only[go_sem,seval,reduceCtorEq];done));(focus (simp only[go_sem,seval,reduceCtorEq];done));(focus (first|rfl|(simp only[go_sem,seval,reduceCtorEq];done))));have hl2:(L.set k y).length=wd:=by rw[List.length_set];exact hl
  have p2:=cW (xs:=L.set k y) (x:=top ⟨kk,pp,nn⟩) (n:=k) (by omega);have ss:(L.set k y).set k (top ⟨kk,pp,nn⟩)=L.set k (top ⟨kk,pp,nn⟩):=by simp
  cases o with
  |true=>
   have e2:(gEl b (top ⟨kk,pp,nn⟩) wd c0 (k+1)).2=L.set k (top ⟨kk,pp,nn⟩):=by rw[hs];rfl
   simp(disch:=omega) only[go_sem,seval,reduceCtorEq];(refine zC (oH kk pp nn hr) ?_);simp(disch:=omega) only[go_sem,seval,reduceCtorEq,p2,ss,hl2]
   (repeat (refine And.intro (by omega) ?_))
   (refine Next.drop (mkB 43 4398038122560) (by omega) (h1:= ?_) (h2:= ?_)<;>first|(simp only[go_sem,seval,reduceCtorEq,nz,na,n1,e1,e2,curC];first|done|rfl)|rfl|skip)
  |false=>
   have e2:(gEl b (top ⟨kk,pp,nn⟩) wd c0 (k+1)).2=L.set k y:=by rw[hs];rfl
   simp(disch:=omega) only[go_sem,seval,reduceCtorEq];(refine Next.drop (mkB 43 4398038122560) (by omega) (h1:= ?_) (h2:= ?_)<;>first|(simp only[go_sem,seval,reduceCtorEq,nz,na,n1,e1,e2,curC];first|done|rfl)|rfl|skip)
 ·have q1:¬(k:Int)<wd:=by omega
  have hk:k=wd:=by omega
  subst hk;simp(disch:=omega) only[go_sem,seval,reduceCtorEq,q1,curC];exact zX
end Go.Proofs.YtobhmajhachnaaaGreatDoor
namespace Go.Proofs.YtobhmajhachnaaaGreatDoor.Plain
structure El(r:Rg)(wd:Nat)(x:List Int):Prop where
 len:x.length=wd
 fit:fits r x
theorem fC{x y:List Int}{n:Nat}(lx:x.length=n)(ly:y.length=n)(h:∀k,k<n→x.getD k 0=y.getD k 0):x=y:=by
 apply List.ext_getElem (lx.trans ly.symm);intro k h1 h2;have:=h k (by omega)
 rwa [zq,zq,zg h1,zg h2]at this
section
variable {r : Rg} {wd : Nat} {x y z : List Int}
theorem El.at(h:El r wd x){k:Nat}(hk:k<wd):0≤x.getD k 0∧x.getD k 0≤top r:=h.fit k (by rw[h.len];exact hk)
theorem El.one(hr:ai r=true)(hw:af r=wd)(h:El r wd x)(hk:¬(r.k=7∨r.k=8)):wd=1∧∃a,x=[a]∧0≤a∧a≤top r:=by
 have h1:=oV hr hk;have hwd:wd=1:=by omega
 subst hwd;obtain⟨hl,hf⟩:=h
 match x,hl with
 | [a],_=>exact⟨rfl,a,rfl,hf 0 (by simp)⟩
def mul1(r:Rg)(a b:Int):Int:=
 if r.k=1∨r.k=5 then min a b else if r.k=2 then (a*b).tmod r.p else if r.k=3 then min (a*b) r.p else if r.k=4 then min (a+b) r.p else andI a b
theorem cY(hk:¬(r.k=7∨r.k=8))(h6:r.k=1∨r.k=2∨r.k=3∨r.k=4∨r.k=5∨r.k=6)(a b:Int):mulE r [a] [b]=[mul1 r a b]:=by
 unfold mulE mul1;simp only[List.getD_cons_zero];split
 ·rfl
 split
 ·rfl
 split
 ·rfl
 split
 ·rfl
 rw[if_pos (by omega)]
theorem Ah(a b:Int):addE r [a] [b]=[add1 r a b]:=rfl
theorem set6(hr:ai r=true)(hk:r.k=6){a:Int}(h:0≤a∧a≤top r):∃m:Nat,a=m∧m<2 ^ r.n.toNat∧m<2 ^ 20∧m<1048577:=by
 have hn:1≤r.n∧r.n≤20:=by rcases aO hr with h|h|h|h|h|h|h|h<;>omega
 rw[top6 hk]at h;obtain⟨m,rfl,h1,h2⟩:=C7 (a:=a) (m:=r.n.toNat) (by omega) (by omega);have:2 ^ r.n.toNat≤2 ^ 20:=Nat.pow_le_pow_right (by omega) (by omega);exact⟨m,rfl,h1,by omega,h2⟩
theorem modP(hr:ai r=true)(hk:r.k=2∨r.k=7∨r.k=8):2≤r.p∧r.p≤1000003∧top r=r.p-1:=by
 have hp:2≤r.p∧r.p≤1000003:=by rcases aO hr with h|h|h|h|h|h|h|h<;>first|omega|exact bU h.2.1
 exact⟨hp.1,hp.2,topP hk⟩
theorem tu(hr:ai r=true)(hk:r.k=3∨r.k=4∨r.k=5):1≤r.p∧top r=r.p:=by
 refine⟨?_,topQ hk⟩;rcases aO hr with h|h|h|h|h|h|h|h<;>omega
theorem kinds(hr:ai r=true):r.k=1∨r.k=2∨r.k=3∨r.k=4∨r.k=5∨r.k=6∨r.k=7∨r.k=8:=by
 rcases aO hr with h|h|h|h|h|h|h|h<;>omega
theorem rc{a b p:Int}(ha:0≤a)(hb:0≤b):(a+b).tmod p=(a+b) % p:=tm (by omega)
theorem E2(hr:ai r=true){a b c:Int}(ha:0≤a∧a≤top r)(hb:0≤b∧b≤top r)(hc:0≤c∧c≤top r):add1 r (add1 r a b) c=add1 r a (add1 r b c):=by
 unfold add1;by_cases h1:r.k=1∨r.k=5
 ·simp only[if_pos h1];omega
 by_cases h3:r.k=3
 ·simp only[if_neg h1,if_pos h3];have:=tu hr (.inl h3);omega
 by_cases h4:r.k=4
 ·simp only[if_neg h1,if_neg h3,if_pos h4];omega
 by_cases h6:r.k=6
 ·simp only[if_neg h1,if_neg h3,if_neg h4,if_pos h6]
  obtain⟨a,rfl,a1,a2,a3⟩:=set6 hr h6 ha;obtain⟨b,rfl,b1,b2,b3⟩:=set6 hr h6 hb;obtain⟨c,rfl,c1,c2,c3⟩:=set6 hr h6 hc;rw[kA a2 b2,kA b2 c2,kA (Nat.or_lt_two_pow a2 b2) c2,kA a2 (Nat.or_lt_two_pow b2 c2),Nat.or_assoc]
 ·simp only[if_neg h1,if_neg h3,if_neg h4,if_neg h6]
  have hp:=modP hr (by have:=kinds hr;omega);have q1:=Int.emod_nonneg (a+b) (show r.p≠0 by omega);have q2:=Int.emod_nonneg (b+c) (show r.p≠0 by omega);rw[rc ha.1 hb.1,rc hb.1 hc.1,rc q1 hc.1,rc ha.1 q2,Int.emod_add_emod,Int.add_emod_emod,Int.add_assoc]
def rN(r:Rg):Int:=if r.k=4 then r.p else 0
theorem Gi(hr:ai r=true){a:Int}(ha:0≤a∧a≤top r):add1 r (rN r) a=a:=by
 unfold add1 rN;by_cases h1:r.k=1∨r.k=5
 ·rw[if_pos h1,if_neg (by omega)];omega
 by_cases h3:r.k=3
 ·rw[if_neg h1,if_pos h3,if_neg (by omega)];have:=tu hr (.inl h3);omega
 by_cases h4:r.k=4
 ·rw[if_neg h1,if_neg h3,if_pos h4,if_pos h4];have:=tu hr (.inr (.inl h4));omega
 by_cases h6:r.k=6
 ·rw[if_neg h1,if_neg h3,if_neg h4,if_pos h6,if_neg h4]
  obtain⟨a,rfl,a1,a2,a3⟩:=set6 hr h6 ha;rw[show (0:Int)=((0:Nat):Int)from rfl,kA (by omega) a2,Nat.zero_or]
 ·rw[if_neg h1,if_neg h3,if_neg h4,if_neg h6,if_neg h4]
  have hp:=modP hr (by have:=kinds hr;omega);rw[Int.zero_add,tm ha.1,Int.emod_eq_of_lt ha.1 (by omega)]
theorem capm{a p c:Int}(ha:0≤a)(hc:0≤c)(hp:0≤p):min (min a p*c) p=min (a*c) p:=by
 by_cases h:a≤p
 ·rw[Int.min_eq_left h]
 ·rw[Int.min_eq_right (show p≤a by omega)]
  by_cases e:c=0
  ·subst e;simp
  ·have h1:p*1≤p*c:=Int.mul_le_mul_of_nonneg_left (by omega) hp
   have h2:p*c≤a*c:=Int.mul_le_mul_of_nonneg_right (by omega) hc;omega
theorem Fz(a b:Int):mul1 r a b=mul1 r b a:=by
 unfold mul1;rw[Int.min_comm a b,Int.mul_comm a b,Int.add_comm a b,show andI a b=andI b a by unfold andI;rw[BitVec.and_comm]]
theorem Dm(hr:ai r=true)(h78:¬(r.k=7∨r.k=8)){a b c:Int}(ha:0≤a∧a≤top r)(hb:0≤b∧b≤top r)(hc:0≤c∧c≤top r):mul1 r (mul1 r a b) c=mul1 r a (mul1 r b c):=by
 have hab:=Int.mul_nonneg ha.1 hb.1;have hbc:=Int.mul_nonneg hb.1 hc.1;unfold mul1;by_cases h1:r.k=1∨r.k=5
 ·simp only[if_pos h1];omega
 by_cases h2:r.k=2
 ·simp only[if_neg h1,if_pos h2]
  have hp:=modP hr (.inl h2);have q1:=Int.emod_nonneg (a*b) (show r.p≠0 by omega);have q2:=Int.emod_nonneg (b*c) (show r.p≠0 by omega);rw[tm hab,tm hbc,tm (Int.mul_nonneg q1 hc.1),tm (Int.mul_nonneg ha.1 q2),Int.mul_emod,Int.emod_emod_of_dvd _ (Int.dvd_refl _), ← Int.mul_emod,Int.mul_emod a,Int.emod_emod_of_dvd _ (Int.dvd_refl _), ← Int.mul_emod,Int.mul_assoc]
 by_cases h3:r.k=3
 ·simp only[if_neg h1,if_neg h2,if_pos h3]
  have hp:=tu hr (.inl h3);rw[capm hab hc.1 (by omega),Int.mul_comm a (min (b*c) r.p),capm hbc ha.1 (by omega),Int.mul_comm (b*c) a,Int.mul_assoc]
 by_cases h4:r.k=4
 ·simp only[if_neg h1,if_neg h2,if_neg h3,if_pos h4];omega
 ·have h6:r.k=6:=by have:=kinds hr;omega
  simp only[if_neg h1,if_neg h2,if_neg h3,if_neg h4];obtain⟨a,rfl,a1,a2,a3⟩:=set6 hr h6 ha;obtain⟨b,rfl,b1,b2,b3⟩:=set6 hr h6 hb;obtain⟨c,rfl,c1,c2,c3⟩:=set6 hr h6 hc;have e1:a&&& b≤a:=Nat.and_le_left;have e2:b&&& c≤b:=Nat.and_le_left;rw[eG a3 b3,eG b3 c3,eG (by omega) c3,eG a3 (by omega),Nat.and_assoc]
def one1(r:Rg):Int:=if r.k=5∨r.k=6 then top r else if r.k=4 then 0 else 1
theorem HO(hr:ai r=true)(h78:¬(r.k=7∨r.k=8)){a:Int}(ha:0≤a∧a≤top r):mul1 r (one1 r) a=a:=by
 have hk:=kinds hr;unfold mul1 one1;by_cases h1:r.k=1
 ·have:top r=1:=by unfold top;rw[if_pos h1]
  rw[if_pos (.inl h1),if_neg (by omega),if_neg (by omega)];omega
 by_cases h5:r.k=5
 ·rw[if_pos (.inr h5),if_pos (.inl h5)];omega
 by_cases h2:r.k=2
 ·have hp:=modP hr (.inl h2)
  rw[if_neg (by omega),if_pos h2,if_neg (by omega),if_neg (by omega),Int.one_mul,tm ha.1,Int.emod_eq_of_lt ha.1 (by omega)]
 by_cases h3:r.k=3
 ·have hp:=tu hr (.inl h3)
  rw[if_neg (by omega),if_neg (by omega),if_pos h3,if_neg (by omega),if_neg (by omega)];omega
 by_cases h4:r.k=4
 ·have hp:=tu hr (.inr (.inl h4))
  rw[if_neg (by omega),if_neg (by omega),if_neg (by omega),if_pos h4,if_neg (by omega),if_pos h4];omega
 ·have h6:r.k=6:=by omega
  rw[if_neg (by omega),if_neg (by omega),if_neg (by omega),if_neg (by omega),if_pos (by omega)];have ht:=dA hr;obtain⟨a,rfl,a1,a2,a3⟩:=set6 hr h6 ha;have e:top r=((2 ^ r.n.toNat-1:Nat):Int):=by
   have c:((2 ^ r.n.toNat:Nat):Int)=(2:Int) ^ r.n.toNat:=by simp
   have:1≤2 ^ r.n.toNat:=Nat.one_le_two_pow;rw[top6 h6];omega
  rw[e,eG (by omega) a3,Nat.and_comm,Nat.and_two_pow_sub_one_of_lt_two_pow a1]
theorem Fy(hr:ai r=true)(h78:¬(r.k=7∨r.k=8)){a:Int}(ha:0≤a∧a≤top r):mul1 r (rN r) a=rN r:=by
 have hk:=kinds hr;unfold mul1 rN;by_cases h1:r.k=1∨r.k=5
 ·rw[if_pos h1,if_neg (by omega)];omega
 by_cases h2:r.k=2
 ·rw[if_neg h1,if_pos h2,if_neg (by omega),Int.zero_mul,Int.zero_tmod]
 by_cases h3:r.k=3
 ·have hp:=tu hr (.inl h3)
  rw[if_neg h1,if_neg h2,if_pos h3,if_neg (by omega),Int.zero_mul];omega
 by_cases h4:r.k=4
 ·have hp:=tu hr (.inr (.inl h4))
  rw[if_neg h1,if_neg h2,if_neg h3,if_pos h4,if_pos h4];omega
 ·have h6:r.k=6:=by omega
  rw[if_neg h1,if_neg h2,if_neg h3,if_neg h4,if_neg h4];obtain⟨a,rfl,a1,a2,a3⟩:=set6 hr h6 ha;rw[show (0:Int)=((0:Nat):Int)from rfl,eG (by omega) a3,Nat.zero_and]
theorem HP(hr:ai r=true)(h78:¬(r.k=7∨r.k=8)){a b c:Int}(ha:0≤a∧a≤top r)(hb:0≤b∧b≤top r)(hc:0≤c∧c≤top r):mul1 r a (add1 r b c)=add1 r (mul1 r a b) (mul1 r a c):=by
 have hk:=kinds hr;have hab:=Int.mul_nonneg ha.1 hb.1;have hac:=Int.mul_nonneg ha.1 hc.1;unfold mul1 add1;by_cases h1:r.k=1∨r.k=5
 ·simp only[if_pos h1];omega
 by_cases h3:r.k=3
 ·have hp:=tu hr (.inl h3)
  have h2:¬ r.k=2:=by omega
  simp only[if_neg h1,if_neg h2,if_pos h3];rw[Int.mul_comm a (min (b+c) r.p),capm (by omega) ha.1 (by omega),Int.add_mul,Int.mul_comm b,Int.mul_comm c];omega
 by_cases h4:r.k=4
 ·have h2:¬ r.k=2:=by omega
  simp only[if_neg h1,if_neg h2,if_neg h3,if_pos h4];omega
 by_cases h6:r.k=6
 ·have h2:¬ r.k=2:=by omega
  simp only[if_neg h1,if_neg h2,if_neg h3,if_neg h4,if_pos h6];obtain⟨a,rfl,a1,a2,a3⟩:=set6 hr h6 ha;obtain⟨b,rfl,b1,b2,b3⟩:=set6 hr h6 hb;obtain⟨c,rfl,c1,c2,c3⟩:=set6 hr h6 hc;have e1:a&&& b≤a:=Nat.and_le_left;have e2:a&&& c≤a:=Nat.and_le_left;have e3:=Nat.or_lt_two_pow b2 c2;rw[eG a3 b3,eG a3 c3,kA b2 c2,kA (by omega) (by omega),eG a3 (by omega),Nat.and_or_distrib_left]
 ·have h2:r.k=2:=by omega
  simp only[if_neg h1,if_neg h3,if_neg h4,if_neg h6,if_pos h2];have hp:=modP hr (.inl h2);have q0:=Int.emod_nonneg (b+c) (show r.p≠0 by omega);have q1:=Int.emod_nonneg (a*b) (show r.p≠0 by omega);have q2:=Int.emod_nonneg (a*c) (show r.p≠0 by omega);rw[tm hab,tm hac,rc hb.1 hc.1,tm (Int.mul_nonneg ha.1 q0),rc q1 q2,Int.mul_emod,Int.emod_emod_of_dvd _ (Int.dvd_refl _), ← Int.mul_emod,Int.mul_add, ← Int.add_emod]
end
end Go.Proofs.YtobhmajhachnaaaGreatDoor.Plain
namespace Go.Proofs.YtobhmajhachnaaaGreatDoor.Plain
section
variable {r : Rg} {wd : Nat} {x y z : List Int}
theorem g9(lx:x.length=wd)(ly:y.length=wd){k:Nat}(hk:k<wd):(addE r x y).getD k 0=add1 r (x.getD k 0) (y.getD k 0):=by
 simp [addE,zq,List.getElem?_zipWith,show k<x.length by omega,show k<y.length by omega]
theorem El.add(hr:ai r=true)(hx:El r wd x)(hy:El r wd y):El r wd (addE r x y):=⟨gM hx.len hy.len,uX hr hx.fit hy.fit⟩
theorem El.mul(hr:ai r=true)(hw:af r=wd)(hx:El r wd x)(hy:El r wd y):El r wd (mulE r x y):=
 ⟨(fV hr hw hx.fit hy.fit hx.len hy.len).1,ue hr hw hx.fit hy.fit hx.len hy.len⟩
theorem El.zero(hr:ai r=true):El r wd (aq r.k r.p wd):=⟨bz ..,j8 hr⟩
theorem wd4(hw:af r=wd)(h:k8 r=true):wd=4:=by
 have h8:r.k=8:=by simpa [k8]using h
 have:af r=4:=by unfold af;rw[if_neg (by omega),if_pos h8]
 omega
theorem mL(hr:ai r=true)(hw:af r=wd){k:Nat}(hk:k<wd):(aq r.k r.p wd).getD k 0=rN r:=by
 unfold aq rN;by_cases h4:r.k=4
 ·have h1:=oV hr (by omega)
  obtain rfl:wd=1:=by omega
  obtain rfl:k=0:=by omega
  rw[if_pos h4,if_pos h4];rfl
 ·rw[if_neg h4,if_neg h4]
  simp [zq,hk]
theorem El.unit(hr:ai r=true)(hw:af r=wd):El r wd (oneE r wd):=by
 have ht:=dA hr;have hwb:=cm hr;have hk:=kinds hr;refine⟨gC ..,fun k hk'=> ?_⟩;rw[gC]at hk';unfold oneE;rw[sZ (by simp;omega)];split
 ·split
  ·omega
  ·split
   ·omega
   ·have:=ht.1;omega
 ·have:(List.replicate wd (0:Int)).getD k 0=0:=by simp [zq,hk']
  rw[this];omega
theorem E0(hr:ai r=true)(hx:El r wd x)(hy:El r wd y)(hz:El r wd z):addE r (addE r x y) z=addE r x (addE r y z):=by
 have h1:=hx.add hr hy;have h2:=hy.add hr hz;refine fC (h1.add hr hz).len (hx.add hr h2).len fun k hk=> ?_
 rw[g9 h1.len hz.len hk,g9 hx.len hy.len hk,g9 hx.len h2.len hk,g9 hy.len hz.len hk];exact E2 hr (hx.at hk) (hy.at hk) (hz.at hk)
theorem EW(hr:ai r=true)(hw:af r=wd)(hx:El r wd x):addE r (aq r.k r.p wd) x=x:=by
 have h0:El r wd (aq r.k r.p wd):=El.zero hr;refine fC (h0.add hr hx).len hx.len fun k hk=> ?_
 rw[g9 h0.len hx.len hk,mL hr hw hk];exact Gi hr (hx.at hk)
theorem dM(hr:ai r=true)(hw:af r=wd)(h78:r.k=7∨r.k=8)(hx:El r wd x)(hy:El r wd y){k:Nat}(hk:k<wd):
  (mulE r x y).getD k 0=cvF (k8 r) wd (fun i=>x.getD i 0) (fun j=>y.getD j 0) k % r.p:=by
 have e:mulE r x y=de r x y (List.replicate x.length 0) x.length:=by
  unfold mulE;rw[if_neg (by omega),if_neg (by omega),if_neg (by omega),if_neg (by omega),if_neg (by omega)]
 obtain⟨lx,hp⟩:=bG hr hx.fit (by omega);obtain⟨ly,_⟩:=bG hr hy.fit (by omega);rw[e,hx.len,zi (w:=wd) hp (wd4 hw) (oE (by omega) wd) (by simp) lx ly hy.len hk wd (Nat.le_refl _)];have:(List.replicate wd (0:Int)).getD k 0=0:=by simp [zq,hk]
 rw[this,Int.zero_add];rfl
theorem wd6(hr:ai r=true)(hw:af r=wd):1≤wd∧wd≤6:=by have:=cm hr;omega
theorem oI(hr:ai r=true)(h:¬(r.k=7∨r.k=8)):r.k=1∨r.k=2∨r.k=3∨r.k=4∨r.k=5∨r.k=6:=by have:=kinds hr;omega
theorem Fv(hr:ai r=true)(hw:af r=wd)(hx:El r wd x)(hy:El r wd y):mulE r x y=mulE r y x:=by
 by_cases h:r.k=7∨r.k=8
 ·refine fC (hx.mul hr hw hy).len (hy.mul hr hw hx).len fun k hk=> ?_
  rw[dM hr hw h hx hy hk,dM hr hw h hy hx hk,IQ]
 ·obtain⟨_,a,rfl,ha⟩:=hx.one hr hw h
  obtain⟨_,b,rfl,hb⟩:=hy.one hr hw h;rw[cY h (oI hr h),cY h (oI hr h),Fz]
theorem Dl(hr:ai r=true)(hw:af r=wd)(hx:El r wd x)(hy:El r wd y)(hz:El r wd z):mulE r (mulE r x y) z=mulE r x (mulE r y z):=by
 have h1:=hx.mul hr hw hy;have h2:=hy.mul hr hw hz;by_cases h:r.k=7∨r.k=8
 ·refine fC (h1.mul hr hw hz).len (hx.mul hr hw h2).len fun k hk=> ?_
  rw[dM hr hw h h1 hz hk,dM hr hw h hx h2 hk];rw[Ba (x':=cvF (k8 r) wd (fun i=>x.getD i 0) (fun j=>y.getD j 0)) (y':=fun j=>z.getD j 0) (fun i hi=>by rw[dM hr hw h hx hy hi,Int.emod_emod_of_dvd _ (Int.dvd_refl _)]) (fun _ _=>rfl)];rw[Ba (x:=fun i=>x.getD i 0) (x':=fun i=>x.getD i 0) (y':=cvF (k8 r) wd (fun i=>y.getD i 0) (fun j=>z.getD j 0)) (fun _ _=>rfl) (fun i hi=>by rw[dM hr hw h hy hz hi,Int.emod_emod_of_dvd _ (Int.dvd_refl _)])];rw[Gb (wd6 hr hw).2 (wd4 hw) _ _ _ hk]
 ·obtain⟨_,a,rfl,ha⟩:=hx.one hr hw h
  obtain⟨_,b,rfl,hb⟩:=hy.one hr hw h;obtain⟨_,c,rfl,hc⟩:=hz.one hr hw h;rw[cY h (oI hr h),cY h (oI hr h),cY h (oI hr h),cY h (oI hr h),Dm hr h ha hb hc]
theorem Fn(hr:ai r=true)(hw:af r=wd)(h:r.k=7∨r.k=8){k:Nat}(hk:k<wd):(oneE r wd).getD k 0=if k=0 then 1 else 0:=by
 unfold oneE;rw[sZ (by simp;omega),if_neg (show ¬(r.k=5∨r.k=6)by omega),if_neg (show ¬ r.k=4 by omega)];have:(List.replicate wd (0:Int)).getD k 0=0:=by simp [zq,hk]
 rw[this]
theorem HD(hr:ai r=true)(hw:af r=wd)(hx:El r wd x):mulE r (oneE r wd) x=x:=by
 have h1:El r wd (oneE r wd):=El.unit hr hw;by_cases h:r.k=7∨r.k=8
 ·refine fC (h1.mul hr hw hx).len hx.len fun k hk=> ?_
  obtain⟨lx,hp⟩:=bG hr hx.fit (by omega);have hxk:=lx.at (by omega) k;rw[dM hr hw h h1 hx hk,A5 (x':=fun i=>if i=0 then 1 else 0) (fun i hi=>Fn hr hw h hi) (fun _ _=>rfl),KM (wd4 hw) _ hk,Int.emod_eq_of_lt hxk.1 hxk.2]
 ·obtain⟨e,a,rfl,ha⟩:=hx.one hr hw h
  subst e;have:oneE r 1=[one1 r]:=rfl;rw[this,cY h (oI hr h),HO hr h ha]
theorem EV(hr:ai r=true)(hw:af r=wd)(hx:El r wd x):mulE r (aq r.k r.p wd) x=aq r.k r.p wd:=by
 have h0:El r wd (aq r.k r.p wd):=El.zero hr;by_cases h:r.k=7∨r.k=8
 ·refine fC (h0.mul hr hw hx).len h0.len fun k hk=> ?_
  have hz1:rN r=0:=if_neg (by omega);rw[dM hr hw h h0 hx hk,A5 (x':=fun _=>0) (fun i hi=>(mL hr hw hi).trans hz1) (fun _ _=>rfl),IP,mL hr hw hk,hz1]
  rfl
 ·obtain⟨e,a,rfl,ha⟩:=hx.one hr hw h
  subst e;have:aq r.k r.p 1=[rN r]:=fC (bz ..) rfl fun k hk=>by
   obtain rfl:k=0:=by omega
   rw[mL hr hw hk];rfl
  rw[this,cY h (oI hr h),Fy hr h ha]
theorem Fw(hr:ai r=true)(hw:af r=wd)(hx:El r wd x)(hy:El r wd y)(hz:El r wd z):mulE r x (addE r y z)=addE r (mulE r x y) (mulE r x z):=by
 have h1:=hx.mul hr hw hy;have h2:=hx.mul hr hw hz;have h3:=hy.add hr hz;by_cases h:r.k=7∨r.k=8
 ·refine fC (hx.mul hr hw h3).len (h1.add hr h2).len fun k hk=> ?_
  obtain⟨ly,hp⟩:=bG hr hy.fit (by omega);obtain⟨lz,_⟩:=bG hr hz.fit (by omega);have ha:∀a b:Int,0≤a→0≤b→add1 r a b=(a+b) % r.p:=fun a b h1 h2=>by
   unfold add1;rw[if_neg (by omega),if_neg (by omega),if_neg (by omega),if_neg (by omega),rc h1 h2]
  have m1:=Int.emod_nonneg (cvF (k8 r) wd (fun i=>x.getD i 0) (fun j=>y.getD j 0) k) (show r.p≠0 by omega);have m2:=Int.emod_nonneg (cvF (k8 r) wd (fun i=>x.getD i 0) (fun j=>z.getD j 0) k) (show r.p≠0 by omega);rw[dM hr hw h hx h3 hk,g9 h1.len h2.len hk,dM hr hw h hx hy hk,dM hr hw h hx hz hk,ha _ _ m1 m2, ← Int.add_emod, ← KN];exact Ba (fun _ _=>rfl) (fun j hj=>by rw[g9 hy.len hz.len hj,ha _ _ (ly.at (by omega) j).1 (lz.at (by omega) j).1,Int.emod_emod_of_dvd _ (Int.dvd_refl _)]) k
 ·obtain⟨_,a,rfl,ha⟩:=hx.one hr hw h
  obtain⟨_,b,rfl,hb⟩:=hy.one hr hw h;obtain⟨_,c,rfl,hc⟩:=hz.one hr hw h;rw[Ah,cY h (oI hr h),cY h (oI hr h),cY h (oI hr h),Ah,HP hr h ha hb hc]
end
end Go.Proofs.YtobhmajhachnaaaGreatDoor.Plain
namespace Go.Proofs.YtobhmajhachnaaaGreatDoor.Sem
open Plain
def Elt(r:Rg)(wd:Nat):Type:={x:List Int // El r wd x}
theorem Elt.ext{r:Rg}{wd:Nat}{x y:Elt r wd}(h:x.val=y.val):x=y:=Subtype.ext h
def aG{r:Rg}{wd:Nat}(hr:ai r=true)(hw:af r=wd):SR (Elt r wd) where
 add x y:=⟨addE r x.val y.val,x.property.add hr y.property⟩
 mul x y:=⟨mulE r x.val y.val,x.property.mul hr hw y.property⟩
 zero:=⟨aq r.k r.p wd,El.zero hr⟩
 one:=⟨oneE r wd,El.unit hr hw⟩
 add_assoc x y z:=Elt.ext (E0 hr x.property y.property z.property)
 add_comm x y:=Elt.ext (Ai r x.val y.val)
 zero_add x:=Elt.ext (EW hr hw x.property)
 mul_assoc x y z:=Elt.ext (Dl hr hw x.property y.property z.property)
 mul_comm x y:=Elt.ext (Fv hr hw x.property y.property)
 one_mul x:=Elt.ext (HD hr hw x.property)
 zero_mul x:=Elt.ext (EV hr hw x.property)
 mul_add x y z:=Elt.ext (Fw hr hw x.property y.property z.property)
theorem Gc{x ys:List Int}{wd n o k:Nat}(hx:x.length=n*wd)(hy:ys.length=wd)(ho:o<n)(hk:k<n):cutE (putE x (o*wd) ys) wd k=if k=o then ys else cutE x wd k:=by
 have h1:(o+1)*wd≤n*wd:=Nat.mul_le_mul_right _ ho;have h2:(k+1)*wd≤n*wd:=Nat.mul_le_mul_right _ hk;rw[Nat.succ_mul]at h1 h2;apply List.ext_getElem?;intro i;unfold cutE;by_cases hi:i<wd
 ·rw[List.getElem?_take,if_pos hi,List.getElem?_drop,lR (by omega)]
  by_cases e:k=o
  ·subst e
   rw[if_pos (by omega),if_pos rfl,show k*wd+i-k*wd=i by omega]
  ·have:¬(o*wd≤k*wd+i∧k*wd+i<o*wd+ys.length):=by
    rcases Nat.lt_or_gt_of_ne e with h|h
    ·have:=Nat.mul_le_mul_right wd (show k+1≤o from h)
     rw[Nat.succ_mul]at this;omega
    ·have:=Nat.mul_le_mul_right wd (show o+1≤k from h)
     rw[Nat.succ_mul]at this;omega
   rw[if_neg this,if_neg e,List.getElem?_take,if_pos hi,List.getElem?_drop]
 ·rw[List.getElem?_take,if_neg hi]
  split
  ·rw[List.getElem?_eq_none (by omega)]
  ·rw[List.getElem?_take,if_neg hi]
theorem me{z:List Int}{wd:Nat}(hz:z.length=wd):∀{n k:Nat},k<n→cutE (repE z n) wd k=z
 |0,k,h=>by omega
 |n+1,k,h=>by
  have hl:=dH z n;rw[hz]at hl;unfold cutE;by_cases e:k=n
  ·subst e
   rw[repE,List.drop_append_of_le_length (by omega),List.drop_of_length_le (by omega),List.nil_append,zt (by omega)]
  ·have hk:k<n:=by omega
   have h2:(k+1)*wd≤n*wd:=Nat.mul_le_mul_right _ hk;rw[Nat.succ_mul]at h2;have ih:=me hz hk;unfold cutE at ih;rw[repE,List.drop_append_of_le_length (by omega),List.take_append_of_le_length (by rw[List.length_drop];omega)];exact ih
section
variable {r : Rg} {wd : Nat} (hr : ai r = true) (hw : af r = wd)
theorem Bk{n m:Nat}{o:Nat→Nat}{e:Nat→Elt r wd}{T:Nat→List Int}(hl:(T 0).length=n*wd)(h0:∀k,k<n→cutE (T 0) wd k=aq r.k r.p wd)
  (hT:∀i,i<m→T (i+1)=putE (T i) (o i*wd) (addE r (cutE (T i) wd (o i)) (e i).val)) (ho:∀i,i<m→o i<n):
  ∀i,i≤m→(T i).length=n*wd∧∀k,k<n→cutE (T i) wd k=(sm (aG hr hw) (fun j=>if o j=k then e j else (aG hr hw).zero) i).val
 |0,_=>⟨hl,fun k hk=>h0 k hk⟩
 |i+1,hi=>by
  obtain⟨h1,h2⟩:=Bk hl h0 hT ho i (by omega);have hoi:=ho i (by omega);have h3:=h2 (o i) hoi;have hE:(addE r (cutE (T i) wd (o i)) (e i).val).length=wd:=by
   rw[h3];exact(El.add hr (Subtype.property _) (e i).property).len
  have h4:(o i+1)*wd≤n*wd:=Nat.mul_le_mul_right _ hoi;rw[Nat.succ_mul]at h4;rw[hT i (by omega)];refine⟨by rw[bQ (by omega)];exact h1,fun k hk=> ?_⟩;rw[Gc h1 hE hoi hk,sm];by_cases ek:o i=k
  ·subst ek
   rw[if_pos rfl,if_pos rfl,h3];rfl
  ·rw[if_neg (Ne.symm ek),if_neg ek,h2 k hk]
   rw[(aG hr hw).add_zero]
end
variable (dim : Int → Nat)
def ay(L:List Int):List Int:=L.map fun x=>(dim x:Int)
theorem cX:∀L,aa (ay dim L)=pN dim L
 | []=>rfl
 |x :: L=>by
  rw[ay,List.map_cons,bi,pN];have:=cX L;rw[ay]at this;rw[this]
  push_cast
  rfl
theorem jq:∀(L:List Int),L.Nodup→∀(a:Asg) (n:Nat),ab (ay dim L) n=L.map fun x=>(asgN dim a L n x:Int)
 | [],_,_,_=>rfl
 |x :: L,hn,a,n=>by
  obtain⟨hx,hn2⟩:=List.nodup_cons.1 hn;have e:ay dim (x :: L)=(dim x:Int) :: ay dim L:=rfl;rw[e,bN,cX,List.map_cons,asgN,ju dim L _ n x hx,fi,jq L hn2 (up a x (n / pN dim L % dim x))]
  push_cast
  rfl
theorem yE{l:Int}{u:Int}{g:Int→Int}:∀{L:List Int},L.Nodup→l∈L→g l=0→sumI (L.map fun x=>if x=l then u else g x)=u+sumI (L.map g)
 | [],_,h,_=>by cases h
 |x :: L,hn,h,h0=>by
  obtain⟨hx,hn2⟩:=List.nodup_cons.1 hn;rw[List.map_cons,List.map_cons,fN,fN];by_cases e:x=l
  ·subst e
   rw[if_pos rfl,h0,List.map_congr_left (g:=g) fun y hy=>if_neg fun e=>hx (by rw[← e];exact hy)];omega
  ·have hl:l∈L:=(List.mem_cons.1 h).elim (fun e'=>absurd e'.symm e) id
   rw[if_neg e,yE hn2 hl h0];omega
theorem wB{L:List Int}(hL:L.Nodup)(b:Asg):∀(ls:List Int),ls.Nodup→(∀x∈ls,x∈L)→sumI (L.map fun x=>ah ls (ay dim ls) x*(b x:Int))=offR dim ls b
 | [],_,_=>by
  have:∀M:List Int,sumI (M.map fun x=>ah [] (ay dim []) x*(b x:Int))=0:=by
   intro M
   induction M with
   |nil=>rfl
   |cons x M ih=>rw[List.map_cons,fN,ih];simp [ah]
  rw[this];rfl
 |l :: ls,hn,hs=>by
  obtain⟨hx,hn2⟩:=List.nodup_cons.1 hn;have ih:=wB hL b ls hn2 fun x hx=>hs x (List.mem_cons_of_mem _ hx)
  have e:(fun x=>ah (l :: ls) (ay dim (l :: ls)) x*(b x:Int))=fun x=>if x=l then aa (ay dim ls)*(b l:Int) else ah ls (ay dim ls) x*(b x:Int):=by
   funext x
   have e1:ay dim (l :: ls)=(dim l:Int) :: ay dim ls:=rfl;rw[e1,ah];by_cases h:x=l
   ·rw[if_pos h,if_pos h,h]
   ·rw[if_neg h,if_neg h]
  rw[e,yE hL (hs l List.mem_cons_self) (by rw[re ls _ l hx,Int.zero_mul]),ih,cX,offR]
  push_cast
  rw[Int.mul_comm]
theorem fZ{L ls:List Int}(hL:L.Nodup)(hls:ls.Nodup)(hs:∀x∈ls,x∈L)(a:Asg)(i:Nat):bK ls (ay dim ls) L (ay dim L) i=offR dim ls (asgN dim a L i):=by
 unfold bK;rw[jq dim L hL a i,xL,wB dim hL _ ls hls hs]
 rfl
end Go.Proofs.YtobhmajhachnaaaGreatDoor.Sem
namespace Go.Proofs.YtobhmajhachnaaaGreatDoor.Sem
open Plain
structure TV(r:Rg)(wd:Nat)(dim:Int→Nat)(t:Ten):Prop where
 nd:t.labels.Nodup
 dm:t.dims=ay dim t.labels
 dp:∀x∈t.labels,1≤dim x
 len:t.data.length=pN dim t.labels*wd
 fit:fits r t.data
section
variable {r : Rg} {wd : Nat} (hr : ai r = true) (hw : af r = wd) (dim : Int → Nat)
def Elt.mk{r:Rg}{wd:Nat}(x:List Int)(h:El r wd x):Elt r wd:=⟨x,h⟩
open Classical in
noncomputable def elO(xs:List Int)(k:Nat):Elt r wd:=if h:El r wd (cutE xs wd k) then Elt.mk _ h else (aG hr hw).zero
noncomputable def elT(dim:Int→Nat)(t:Ten)(a:Asg):Elt r wd:=elO hr hw t.data (offR dim t.labels a)
variable {dim}
theorem TV.el{t:Ten}(h:TV r wd dim t){k:Nat}(hk:k<pN dim t.labels):El r wd (cutE t.data wd k):=⟨jr h.len hk,eY h.fit wd k⟩
theorem gk{t:Ten}(h:TV r wd dim t){a:Asg}(ha:∀x∈t.labels,a x<dim x):(elT hr hw dim t a).val=cutE t.data wd (offR dim t.labels a):=by
 unfold elT elO;rw[dif_pos (h.el (dg dim ha))]
 rfl
theorem uL{t:Ten}{a b:Asg}(h:∀x∈t.labels,a x=b x):elT hr hw dim t a=elT hr hw dim t b:=by
 unfold elT;rw[fT dim h]
theorem KF{t:Ten}{L:List Int}(h:∀x∈L,x∉t.labels):Ind L (elT hr hw dim t):=fun x hx a v=>
 uL hr hw fun y hy=>nq fun e=>h x hx (by rw[← e];exact hy)
theorem rF{t:Ten}(h:TV r wd dim t){a:Asg}(ha:∀x∈t.labels,a x<dim x){e:Elt r wd}(he:cutE t.data wd (offR dim t.labels a)=e.val):elT hr hw dim t a=e:=
 Elt.ext ((gk hr hw h ha).trans he)
theorem TV.dimEq{t:Ten}(h:TV r wd dim t){x:Int}(hx:x∈t.labels):ao t x=dim x:=by
 obtain⟨k,hk,rfl⟩:=List.getElem_of_mem hx;unfold ao;rw[ez hk (dQ h.nd hk),h.dm];simp [ay,zq,hk]
theorem j5(hr:ai r=true)(hw:af r=wd){x:List Int}{n:Nat}(hl:x.length=n*wd)(h:∀k,k<n→El r wd (cutE x wd k)):fits r x:=fun i hi=>by
 have hwd:=wd6 hr hw;have hq:i / wd<n:=Nat.div_lt_of_lt_mul (by rw[Nat.mul_comm];omega);have hm:=Nat.mod_lt i (show 0<wd by omega);have hd:=Nat.div_add_mod i wd;rw[Nat.mul_comm]at hd;have h1:=(h _ hq).at hm;have e:(cutE x wd (i / wd)).getD (i % wd) 0=x.getD i 0:=by
  unfold cutE;rw[zq,zq,List.getElem?_take,if_pos hm,List.getElem?_drop,hd]
 rwa [e]at h1
section
variable {A B : Ten} (hA : TV r wd dim A) (hB : TV r wd dim B)
include hA hB
theorem wc:(conL A B).Nodup:=xz hA.nd hB.nd
theorem KS:∀x∈conL A B,1≤dim x:=fun x hx=>(bm.1 hx).elim (hA.dp x) (hB.dp x)
theorem rz:aB A B=ay dim (conL A B):=by
 unfold aB ay;refine List.map_congr_left fun x hx=> ?_
 by_cases h:x∈A.labels
 ·rw[if_pos (aQ.2 h),hA.dimEq h]
 ·have hb:x∈B.labels:=(bm.1 hx).elim (fun h'=>absurd h' h) id
  rw[if_neg (by rw[aQ];exact h),hB.dimEq hb]
theorem Aa(keep:List Int):conD A B keep=ay dim (conK A B keep):=by
 unfold conD;refine List.map_congr_left fun x hx=> ?_
 obtain⟨k,hk,rfl⟩:=List.getElem_of_mem (List.mem_filter.1 hx).1;rw[DT (wc hA hB) hk,rz hA hB];simp [ay,zq,hk]
end
def conX(A B:Ten)(keep:List Int):List Int:=(conL A B).filter fun x=> !has keep x
theorem Ge{A B:Ten}{keep:List Int}:(conL A B).Perm (conX A B keep++conK A B keep):=
 ((List.filter_append_perm (has keep) (conL A B)).symm).trans List.perm_append_comm
theorem dJ(L:List Int):aZ (ay dim L)=pN dim L:=by
 unfold aZ;rw[cX];rfl
theorem DW{A B:Ten}(hA:TV r wd dim A)(hB:TV r wd dim B)(keep:List Int):TV r wd dim (conR r wd A B keep)∧
  ∀a:Asg,(∀x∈conK A B keep,a x<dim x)→elT hr hw dim (conR r wd A B keep) a=sumL (aG hr hw) dim (conX A B keep) (fun b=>(aG hr hw).mul (elT hr hw dim A b) (elT hr hw dim B b)) a:=by
 have hLn:=wc hA hB;have hLd:=KS hA hB;have hjd:=rz hA hB;have hkd:=Aa hA hB keep;have hKn:(conK A B keep).Nodup:=hLn.filter _;have hKs:∀x∈conK A B keep,x∈conL A B:=fun x hx=>(List.mem_filter.1 hx).1
 have hKd:∀x∈conK A B keep,1≤dim x:=fun x hx=>hLd x (hKs x hx)
 have hasg:∀(a:Asg) (i:Nat) x,x∈conL A B→asgN dim a (conL A B) i x<dim x:=fun a i x hx=>iQ dim _ hLd a i x hx
 have hz:(aq r.k r.p wd).length=wd:=bz ..;have hacc:∀a:Asg,∀i,i≤pN dim (conL A B)→(fE r wd A B keep (repE (aq r.k r.p wd) (pN dim (conK A B keep))) i).length=pN dim (conK A B keep)*wd∧
   ∀k,k<pN dim (conK A B keep)→cutE (fE r wd A B keep (repE (aq r.k r.p wd) (pN dim (conK A B keep))) i) wd k=
    (sm (aG hr hw) (fun j=>if conO A B keep j=k then (aG hr hw).mul (elT hr hw dim A (asgN dim a (conL A B) j)) (elT hr hw dim B (asgN dim a (conL A B) j)) else (aG hr hw).zero) i).val:=fun a=>by
  refine Bk hr hw (T:=fun i=>fE r wd A B keep (repE (aq r.k r.p wd) (pN dim (conK A B keep))) i) ?_ ?_ ?_ ?_
  ·show (repE (aq r.k r.p wd) (pN dim (conK A B keep))).length=_
   rw[dH,hz]
  ·intro k hk
   exact me hz hk
  ·intro i hi
   have eA:(elT hr hw dim A (asgN dim a (conL A B) i)).val=cutE A.data wd (bK A.labels A.dims (conL A B) (aB A B) i):=by
    rw[gk hr hw hA fun x hx=>hasg a i x (bm.2 (.inl hx)),hjd,hA.dm,fZ dim hLn hA.nd (fun x hx=>bm.2 (.inl hx)) a i]
   have eB:(elT hr hw dim B (asgN dim a (conL A B) i)).val=cutE B.data wd (bK B.labels B.dims (conL A B) (aB A B) i):=by
    rw[gk hr hw hB fun x hx=>hasg a i x (bm.2 (.inr hx)),hjd,hB.dm,fZ dim hLn hB.nd (fun x hx=>bm.2 (.inr hx)) a i]
   have e:((aG hr hw).mul (elT hr hw dim A (asgN dim a (conL A B) i)) (elT hr hw dim B (asgN dim a (conL A B) i))).val=conE r wd A B i:=by
    show mulE r _ _=_
    rw[eA,eB];rfl
   rw[e]
   rfl
  ·intro i hi
   unfold conO;rw[hkd,hjd,fZ dim hLn hKn hKs a i];exact dg dim fun x hx=>hasg a i x (hKs x hx)
 have hlab:(conR r wd A B keep).labels=conK A B keep:=rfl;have hdat:(conR r wd A B keep).data=fE r wd A B keep (repE (aq r.k r.p wd) (pN dim (conK A B keep))) (pN dim (conL A B)):=by
  show fE r wd A B keep (repE (aq r.k r.p wd) (aZ (conD A B keep))) (aZ (aB A B))=_
  rw[hkd,hjd,dJ,dJ]
 have hT:TV r wd dim (conR r wd A B keep):=by
  refine⟨hKn,hkd,hKd, ?_, ?_⟩
  ·rw[hdat,hlab];exact(hacc (fun _=>0) _ (Nat.le_refl _)).1
  ·rw[hdat]
   obtain⟨h1,h2⟩:=hacc (fun _=>0) _ (Nat.le_refl _);refine j5 hr hw h1 fun k hk=> ?_
   rw[h2 k hk];exact Subtype.property _
 refine⟨hT,fun a ha=> ?_⟩;refine rF hr hw hT ha ?_;rw[hdat,hlab,(hacc a _ (Nat.le_refl _)).2 _ (dg dim ha)]
 congr 1
 have e1:sm (aG hr hw) (fun j=>if conO A B keep j=offR dim (conK A B keep) a then (aG hr hw).mul (elT hr hw dim A (asgN dim a (conL A B) j)) (elT hr hw dim B (asgN dim a (conL A B) j)) else (aG hr hw).zero) (pN dim (conL A B))=
   sm (aG hr hw) (fun j=>(fun b=>if agr (conK A B keep) b a=true then (aG hr hw).mul (elT hr hw dim A b) (elT hr hw dim B b) else (aG hr hw).zero) (asgN dim a (conL A B) j)) (pN dim (conL A B)):=by
  refine cn _ fun j hj=> ?_
  have hiff:conO A B keep j=offR dim (conK A B keep) a↔agr (conK A B keep) (asgN dim a (conL A B) j) a=true:=by
   unfold conO;rw[hkd,hjd,fZ dim hLn hKn hKs a j,kO];exact⟨fun e=>sp dim (fun x hx=>hasg a j x (hKs x hx)) ha e,fun e=>fT dim e⟩
  by_cases h:conO A B keep j=offR dim (conK A B keep) a
  ·simp only[if_pos h,if_pos (hiff.1 h)]
  ·simp only[if_neg h,if_neg fun e=>h (hiff.2 e)]
 have e3:=At (aG hr hw) dim (fun b=>if agr (conK A B keep) b a=true then (aG hr hw).mul (elT hr hw dim A b) (elT hr hw dim B b) else (aG hr hw).zero) (conL A B) hLd a;refine e1.trans (e3.trans ?_);rw[iT _ dim Ge hLn,od];refine bS _ dim fun a' ha'=> ?_
 have hdis:∀x∈conK A B keep,x∉conX A B keep:=fun x hx h'=>by
  have h1:=(List.mem_filter.1 hx).2;have h2:=(List.mem_filter.1 h').2;rw[h1]at h2;cases h2
 have haa:∀x∈conK A B keep,a' x=a x:=fun x hx=>ha'.1 x (hdis x hx)
 have e2:sumL (aG hr hw) dim (conK A B keep) (fun b=>if agr (conK A B keep) b a=true then (aG hr hw).mul (elT hr hw dim A b) (elT hr hw dim B b) else (aG hr hw).zero) a'=
   sumL (aG hr hw) dim (conK A B keep) (fun b=>if agr (conK A B keep) b a'=true then (aG hr hw).mul (elT hr hw dim A b) (elT hr hw dim B b) else (aG hr hw).zero) a':=by
  refine bS _ dim fun b _=> ?_
  have:agr (conK A B keep) b a=agr (conK A B keep) b a':=Bool.eq_iff_iff.2 (by
   rw[kO,kO];exact⟨fun h x hx=>(h x hx).trans (haa x hx).symm,fun h x hx=>(h x hx).trans (haa x hx)⟩)
  rw[this]
 rw[e2];refine wz (aG hr hw) dim (f:=fun b=>(aG hr hw).mul (elT hr hw dim A b) (elT hr hw dim B b)) hKn (fun x hx=>by rw[haa x hx];exact ha x hx) (fun b b' hb=> ?_) a' fun _ _=>rfl
 simp only[uL hr hw (fun x _=>hb x)]
end
end Go.Proofs.YtobhmajhachnaaaGreatDoor.Sem
