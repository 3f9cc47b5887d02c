/-
 Contracts: the drawing of test data: the cursor over a code, numbers drawn. No condition.
-/
import Derived.Test.YtjfmckhbmdjnpaaGreatMgDecompositionsA
import Derived.Test.YtjfmckhbmdjnpaaGreatStkA
import Derived.Test.YtjfmckhbmdjnpaaGreatArrA
set_option linter.unusedSimpArgs false
set_option linter.unusedVariables false
namespace Go.Proofs.YtjfmckhbmdjnpaaGreat
open Go.RowKit Go.Lift Plain
set_option maxRecDepth 100000
def dby (b:List Int):List D:=b.map .byte
def bytes (b:List Int):D:=.sl b.length (dby b)
structure CodeOk (b:List Int):Prop where
 len:b.length≤1048576
 wf:∀ x∈b,0≤x∧x≤255
def curC (b:List Int) (i:Nat) (h:Int):List AV:=[.d (bytes b),.d (.int i),.d (.int h)]
def curR (b:List Int) (i:Nat) (h:Int):Option Root:=some ⟨0,false,curC b i h⟩
theorem Hj (b:List Int) (i:Nat):(dby b)[i]? =b[i]?.map .byte:=by simp [dby]
attribute [go_sem] Hj
def a255 (x:Int):Int:=IntKind.i64.wrap ((BitVec.ofInt 64 x&&& 255#64).toNat:Int)
theorem oB (x:Int):0≤a255 x∧a255 x≤255:=by
 have h:(BitVec.ofInt 64 x&&& 255#64).toNat≤255:=by
  rw[BitVec.toNat_and]
  exact Nat.and_le_right
 unfold a255
 rw[IntWalk.i64_in _ (by omega)]
 omega
def gH (h:Int):Int:=IntKind.i64.wrap (IntKind.i64.wrap (h*6364136223846793005)+1442695040888963407)
def gX (h:Int):Int:=a255 (IntKind.i64.wrap ((BitVec.ofInt 64 (h.fdiv (2 ^ (min 33 64))) ^^^ BitVec.ofInt 64 (h.fdiv (2 ^ (min 45 64)))).toNat:Int))
theorem rk {b:List Int} (hb:CodeOk b) (i:Nat) (hi:i≤b.length) (h:Int):∃ (x:Int) (j:Nat) (h':Int),(0≤x∧x≤255∧j≤b.length)∧Does Tryz.prog 108 [.ptr 0 0] [curR b i h] (.d (.int x)) [curR b j h']:=by
 have hl:=hb.len
 have g1:IntKind.i64.wrap (IntKind.i64.wrap (h*6364136223846793005)+1442695040888963407)=gH h:=rfl
 have g2:IntKind.i64.wrap ((BitVec.ofInt 64 (IntKind.i64.wrap ((BitVec.ofInt 64 ((gH h).fdiv (2 ^ (min 33 64))) ^^^ BitVec.ofInt 64 ((gH h).fdiv (2 ^ (min 45 64)))).toNat:Int))&&& 255#64).toNat:Int)=gX (gH h):=rfl
 have g3:=oB (IntKind.i64.wrap ((BitVec.ofInt 64 ((gH h).fdiv (2 ^ (min 33 64))) ^^^ BitVec.ofInt 64 ((gH h).fdiv (2 ^ (min 45 64)))).toNat:Int))
 change 0≤gX (gH h)∧gX (gH h)≤255 at g3
 by_cases hlt:i<b.length
 ·have d1:(i:Int)<b.length:=by omega
  have g:b[i]? =some b[i]:=zg hlt
  have hw:=hb.wf b[i] (List.getElem_mem _)
  have g4:IntKind.i64.wrap ((BitVec.ofInt 64 (gX (gH h)+b[i])&&& 255#64).toNat:Int)=a255 (gX (gH h)+b[i]):=rfl
  have g5:(i:Int)+1=((i+1:Nat):Int):=by omega
  refine⟨a255 (gX (gH h)+b[i]),i+1,gH h,⟨(oB _).1,(oB _).2,hlt⟩, ?_⟩
  (refine spec_of (by kernel_rfl) Tryz.func108 eK (fnOk (nb rfl) ?_);unfold dq)
  unfold curR curC bytes
  (simp only[Nat.reduceSub,Zl,zn,Nat.reduceAdd,zF];try simp only[af]);(simp only[go_sem,seval,reduceCtorEq,List.replicate])
  simp(disch:=omega) only[go_sem,seval,reduceCtorEq,g1,g2,d1,g,g4,g5,Option.map_some]
  (refine zE ?_ ?_<;>try simp only[go_sem,seval,reduceCtorEq])
 ·have d1:¬ (i:Int)<b.length:=by omega
  refine⟨gX (gH h),i,gH h,⟨g3.1,g3.2,hi⟩, ?_⟩
  (refine spec_of (by kernel_rfl) Tryz.func108 eK (fnOk (nb rfl) ?_);unfold dq)
  unfold curR curC bytes
  (simp only[Nat.reduceSub,Zl,zn,Nat.reduceAdd,zF];try simp only[af]);(simp only[go_sem,seval,reduceCtorEq,List.replicate])
  simp(disch:=omega) only[go_sem,seval,reduceCtorEq,g1,g2,d1]
  (refine zE ?_ ?_<;>try simp only[go_sem,seval,reduceCtorEq])
def Draws (f:FuncId) (b:List Int) (i:Nat) (h:Int) (args:List AV) (P:Int→Prop):Prop:=
 ∃ (x:Int) (j:Nat) (h':Int),(P x∧j≤b.length)∧Does Tryz.prog f (.ptr 0 0 :: args) [curR b i h] (.d (.int x)) [curR b j h']
theorem px {b:List Int} (hb:CodeOk b) (i:Nat) (hi:i≤b.length) (h:Int) {n:Int} (hn:1≤n∧n≤1048576):Draws 66 b i h [.d (.int n)] fun x=>0≤x∧x<n:=by
 obtain⟨x,j,h',⟨x0,x1,hj⟩,hd⟩:=rk hb i hi h
 have e:=Int.tmod_eq_emod_of_nonneg x0 (b:=n)
 have m0:=Int.emod_nonneg x (b:=n) (by omega)
 have m1:=Int.emod_lt_of_pos x (b:=n) (by omega)
 refine⟨x % n,j,h',⟨⟨m0,m1⟩,hj⟩, ?_⟩
 have d0:¬ n≤0:=by omega
 have d1:n≠0:=by omega
 (refine spec_of (by kernel_rfl) Tryz.func66 lY (fnOk (nb rfl) ?_);unfold fY)
 unfold curR curC
 (simp only[Nat.reduceSub,Zl,zn,Nat.reduceAdd,zF];try simp only[af]);(simp only[go_sem,seval,reduceCtorEq,List.replicate])
 simp only[go_sem,seval,reduceCtorEq,d0]
 unfold curR curC at hd
 (refine an [0] [] false (zd rfl) ?_ _ ?_ (hd) ?_ ?_;(focus (simp only[go_sem,seval,reduceCtorEq];done));(focus (simp only[go_sem,seval,reduceCtorEq];done));(focus (first | rfl | (simp only[go_sem,seval,reduceCtorEq];done))))
 simp only[go_sem,seval,reduceCtorEq,e,d1]
 (repeat (refine And.intro (by omega) ?_))
 (refine zE ?_ ?_<;>try simp only[go_sem,seval,reduceCtorEq])
theorem dS {b:List Int} (hb:CodeOk b) (i:Nat) (hi:i≤b.length) (h:Int) {xs:List Int} (hn:1≤xs.length∧xs.length≤1048576):∃ (x:Int) (j:Nat) (h':Int),(x∈xs∧j≤b.length)∧Does Tryz.prog 67 [.ptr 0 0,.own 1 0 xs.length] [curR b i h,some ⟨1,false,iv xs⟩] (.d (.int x)) [curR b j h',some ⟨1,false,iv xs⟩]:=by
 obtain⟨x,j,h',⟨⟨x0,x1⟩,hj⟩,hd⟩:=px hb i hi h (n:=xs.length) (by omega)
 have hx:x=((x.toNat:Nat):Int):=by omega
 have hlt:x.toNat<xs.length:=by omega
 have g:xs[x.toNat]? =some xs[x.toNat]:=zg hlt
 refine⟨xs[x.toNat],j,h',⟨List.getElem_mem _,hj⟩, ?_⟩
 (refine spec_of (by kernel_rfl) Tryz.func67 uv (fnOk (nb rfl) ?_);unfold nT)
 unfold curR curC
 (simp only[Nat.reduceSub,Zl,zn,Nat.reduceAdd,zF];try simp only[af]);(simp only[go_sem,seval,reduceCtorEq,List.replicate])
 unfold curR curC at hd
 (refine an [0] [] false (zd rfl) ?_ _ ?_ (hd) ?_ ?_;(focus (simp only[go_sem,seval,reduceCtorEq];done));(focus (simp only[go_sem,seval,reduceCtorEq];done));(focus (first | rfl | (simp only[go_sem,seval,reduceCtorEq];done))))
 simp(disch:=omega) only[go_sem,seval,reduceCtorEq,g,Option.map_some]
 (repeat (refine And.intro (by omega) ?_))
 (refine zE ?_ ?_<;>try simp only[go_sem,seval,reduceCtorEq])
def HM (h x:Int):Int:=IntKind.i64.wrap ((BitVec.ofInt 64 (IntKind.i64.wrap (IntKind.i64.wrap (IntKind.i64.wrap (h*131)+x)+7))&&& 1073741823#64).toNat:Int)
def gNew (b:List Int):Nat→Int
 | 0=>55127+(b.length:Int)
 | k+1=>HM (gNew b k) (b.getD k 0)
theorem EG {b:List Int} (hb:CodeOk b):Does Tryz.prog 68 [.d (bytes b)] [] (.ptr 0 0) [curR b 0 (gNew b (min b.length 4000))]:=by
 have hl:=hb.len
 (refine spec_of (by kernel_rfl) Tryz.func68 vC (fnOk (nb rfl) ?_);unfold p5)
 unfold bytes
 simp(disch:=omega) only[go_sem,seval,reduceCtorEq]
 have e0:gNew b 0=55127+(b.length:Int):=rfl
 refine aN (min b.length 4000) (mkB 32 268435200) (fun k=>[(3,.d (.int (gNew b k))),(4,.d (.int k))]) (fun k=>[]) (h1:=by first | (simp only[go_sem,seval,reduceCtorEq,nz,na,n1,e0];first | done | rfl) | rfl) (h2:=by first | (simp only[go_sem,seval,reduceCtorEq,nz,na,n1,e0];first | done | rfl) | rfl) (hr:=fun k hk=> ?_)
 unfold nE
 by_cases hlt:k<min b.length 4000
 ·have hk:k<b.length:=by omega
  have d1:(k:Int)<b.length:=by omega
  have d2:(k:Int)<4000:=by omega
  have g:b[k]? =some b[k]:=zg hk
  have hs:gNew b (k+1)=IntKind.i64.wrap ((BitVec.ofInt 64 (IntKind.i64.wrap (IntKind.i64.wrap (IntKind.i64.wrap (gNew b k*131)+b[k])+7))&&& 1073741823#64).toNat:Int):=by
   show HM (gNew b k) (b.getD k 0)=_
   rw[ab hk]
   rfl
  have hw:=hb.wf b[k] (List.getElem_mem _)
  have gw:IntKind.i64.wrap b[k]=b[k]:=IntWalk.i64_in _ (by omega)
  simp(disch:=omega) only[go_sem,seval,reduceCtorEq,d1,d2,g,gw,Option.map_some, ← hs]
  (repeat (refine And.intro (by omega) ?_))
  (refine Next.drop (mkB 32 268435200) (by omega) (h1:= ?_) (h2:= ?_)<;>first | (simp only[go_sem,seval,reduceCtorEq,nz,na,n1];first | done | rfl) | rfl | skip)
 ·have hk:k=min b.length 4000:=by omega
  by_cases hk2:k<b.length
  ·have d1:(k:Int)<b.length:=by omega
   have d2:¬ (k:Int)<4000:=by omega
   simp(disch:=omega) only[go_sem,seval,reduceCtorEq,d1,d2]
   rw[← hk]
   unfold curR curC bytes
   (refine zE ?_ ?_<;>try simp only[go_sem,seval,reduceCtorEq])
  ·have d1:¬ (k:Int)<b.length:=by omega
   simp(disch:=omega) only[go_sem,seval,reduceCtorEq,d1]
   rw[← hk]
   unfold curR curC bytes
   (refine zE ?_ ?_<;>try simp only[go_sem,seval,reduceCtorEq])
theorem ti {b:List Int} (hb:CodeOk b) {n:Nat} (hn:n≤1000):∃ (i:Nat) (h:Int),i≤b.length∧Does Tryz.prog 24 [.d (bytes b),.d (.int n)] [] (.ptr 0 0) [curR b i h]:=by
 have hl:=hb.len
 have hd:=EG hb
 refine⟨min n b.length,IntKind.i64.wrap ((BitVec.ofInt 64 (IntKind.i64.wrap (IntKind.i64.wrap (IntKind.i64.wrap (gNew b (min b.length 4000)*31)+n*7919)+1))&&& 1073741823#64).toNat:Int),by omega, ?_⟩
 generalize gNew b (min b.length 4000)=h0 at hd
 (refine spec_of (by kernel_rfl) Tryz.func24 xu (fnOk (nb rfl) ?_);unfold qW)
 unfold curR curC bytes
 unfold curR curC bytes at hd
 (simp only[Nat.reduceSub,Zl,zn,Nat.reduceAdd,zF];try simp only[af]);(simp only[go_sem,seval,reduceCtorEq,List.replicate])
 (refine zC (hd) ?_)
 have e:min (n:Int) (b.length:Int)=((min n b.length:Nat):Int):=by omega
 simp(disch:=omega) only[go_sem,seval,reduceCtorEq,e]
 (refine zE ?_ ?_<;>try simp only[go_sem,seval,reduceCtorEq])
theorem MakeNum_d {b:List Int} (hb:CodeOk b) {n:Nat} (hn:n≤1000):∃ x:Int,(0≤x∧x≤65535)∧Does Tryz.prog 61 [.d (bytes b),.d (.int n)] [] (.d (.int x)) []:=by
 obtain⟨i,h,hi,hd⟩:=ti hb hn
 obtain⟨x,j,h',⟨x0,x1,hj⟩,hx⟩:=rk hb i hi h
 obtain⟨y,j2,h2,⟨y0,y1,hj2⟩,hy⟩:=rk hb j hj h'
 refine⟨256*x+y,⟨by omega,by omega⟩, ?_⟩
 (refine spec_of (by kernel_rfl) Tryz.func61 ux (fnOk (nb rfl) ?_);unfold nV)
 unfold curR curC at hd hx hy
 (simp only[Nat.reduceSub,Zl,zn,Nat.reduceAdd,zF];try simp only[af]);(simp only[go_sem,seval,reduceCtorEq,List.replicate])
 (refine zC (hd) ?_)
 simp only[go_sem,seval,reduceCtorEq]
 (refine an [0] [] false (zd rfl) ?_ _ ?_ (hx) ?_ ?_;(focus (simp only[go_sem,seval,reduceCtorEq];done));(focus (simp only[go_sem,seval,reduceCtorEq];done));(focus (first | rfl | (simp only[go_sem,seval,reduceCtorEq];done))))
 simp(disch:=omega) only[go_sem,seval,reduceCtorEq]
 (refine an [0] [] false (zd rfl) ?_ _ ?_ (hy) ?_ ?_;(focus (simp only[go_sem,seval,reduceCtorEq];done));(focus (simp only[go_sem,seval,reduceCtorEq];done));(focus (first | rfl | (simp only[go_sem,seval,reduceCtorEq];done))))
 simp(disch:=omega) only[go_sem,seval,reduceCtorEq]
 (refine zE ?_ ?_<;>try simp only[go_sem,seval,reduceCtorEq])
theorem MakeSize_d {b:List Int} (hb:CodeOk b) {n:Nat} (hn:n≤1000) {lo hi:Int} (h:0≤lo∧lo≤hi∧hi≤1000000):∃ x:Int,(lo≤x∧x≤hi)∧Does Tryz.prog 20 [.d (bytes b),.d (.int n),.d (.int lo),.d (.int hi)] [] (.d (.int x)) []:=by
 obtain⟨x,⟨x0,x1⟩,hx⟩:=MakeNum_d hb hn
 have e:=Int.tmod_eq_emod_of_nonneg x0 (b:=hi-lo+1)
 have m0:=Int.emod_nonneg x (b:=hi-lo+1) (by omega)
 have m1:=Int.emod_lt_of_pos x (b:=hi-lo+1) (by omega)
 refine⟨lo+x % (hi-lo+1),⟨by omega,by omega⟩, ?_⟩
 have d1:hi-lo+1≠0:=by omega
 (refine spec_of (by kernel_rfl) Tryz.func20 sL (fnOk (nb rfl) ?_);unfold mr)
 unfold bytes
 unfold bytes at hx
 (simp only[Nat.reduceSub,Zl,zn,Nat.reduceAdd,zF];try simp only[af]);(simp only[go_sem,seval,reduceCtorEq,List.replicate])
 (refine zC (hx) ?_)
 simp(disch:=omega) only[go_sem,seval,reduceCtorEq,e]
 (repeat (refine And.intro (by omega) ?_))
 (refine zE ?_ ?_<;>try simp only[go_sem,seval,reduceCtorEq])
theorem CG {b:List Int} (hb:CodeOk b) (i:Nat) (hi:i≤b.length) (h:Int):∃ (k p n:Int) (j:Nat) (h':Int),(ae ⟨k,p,n⟩=true∧j≤b.length)∧Does Tryz.prog 23 [.ptr 0 0] [curR b i h] (bm k p n) [curR b j h']:=by
 obtain⟨x,j,h1,⟨⟨x0,x1⟩,hj⟩,hx⟩:=px hb i hi h (n:=8) (by omega)
 unfold curR curC at hx
 have hc:x=0∨x=1∨x=2∨x=3∨x=4∨x=5∨x=6∨x=7:=by omega
 rcases hc with rfl | rfl | rfl | rfl | rfl | rfl | rfl | rfl
 ·refine⟨1,0,0,j,h1,⟨by kernel_rfl,hj⟩, ?_⟩
  (refine spec_of (by kernel_rfl) Tryz.func23 bT (fnOk (nb rfl) ?_);unfold bz)
  unfold curR curC
  (simp only[Nat.reduceSub,Zl,zn,Nat.reduceAdd,zF];try simp only[af]);(simp only[go_sem,seval,reduceCtorEq,List.replicate])
  (refine an [0] [] false (zd rfl) ?_ _ ?_ (hx) ?_ ?_;(focus (simp only[go_sem,seval,reduceCtorEq];done));(focus (simp only[go_sem,seval,reduceCtorEq];done));(focus (first | rfl | (simp only[go_sem,seval,reduceCtorEq];done))))
  simp(disch:=omega) only[go_sem,seval,reduceCtorEq]
  (refine zE ?_ ?_<;>try simp only[go_sem,seval,reduceCtorEq])
 ·obtain⟨y,j2,h2,⟨hy1,hj2⟩,hy⟩:=dS hb j hj h1 (xs:=[2,3,7,97,1000003]) (by decide)
  unfold curR curC at hy
  simp only[iv,List.map_cons,List.map_nil,Zl,zn,Nat.zero_add,Nat.reduceAdd]at hy
  refine⟨2,y,0,j2,h2,⟨?_,hj2⟩, ?_⟩
  ·simp only[List.mem_cons,List.not_mem_nil,or_false]at hy1
   rcases hy1 with rfl | rfl | rfl | rfl | rfl<;>kernel_rfl
  ·(refine spec_of (by kernel_rfl) Tryz.func23 bT (fnOk (nb rfl) ?_);unfold bz)
   unfold curR curC
   (simp only[Nat.reduceSub,Zl,zn,Nat.reduceAdd,zF];try simp only[af]);(simp only[go_sem,seval,reduceCtorEq,List.replicate])
   (refine an [0] [] false (zd rfl) ?_ _ ?_ (hx) ?_ ?_;(focus (simp only[go_sem,seval,reduceCtorEq];done));(focus (simp only[go_sem,seval,reduceCtorEq];done));(focus (first | rfl | (simp only[go_sem,seval,reduceCtorEq];done))))
   simp(disch:=omega) only[go_sem,seval,reduceCtorEq]
   (refine an [0,2] [] false (zd rfl) ?_ _ ?_ (hy) ?_ ?_;(focus (simp only[go_sem,seval,reduceCtorEq];done));(focus (simp only[go_sem,seval,reduceCtorEq];done));(focus (first | rfl | (simp only[go_sem,seval,reduceCtorEq];done))))
   simp(disch:=omega) only[go_sem,seval,reduceCtorEq]
   (refine zE ?_ ?_<;>try simp only[go_sem,seval,reduceCtorEq])
 ·obtain⟨y,j2,h2,⟨hy1,hj2⟩,hy⟩:=dS hb j hj h1 (xs:=[1,2,9,40,1000000]) (by decide)
  unfold curR curC at hy
  simp only[iv,List.map_cons,List.map_nil,Zl,zn,Nat.zero_add,Nat.reduceAdd]at hy
  refine⟨3,y,0,j2,h2,⟨?_,hj2⟩, ?_⟩
  ·simp only[List.mem_cons,List.not_mem_nil,or_false]at hy1
   rcases hy1 with rfl | rfl | rfl | rfl | rfl<;>kernel_rfl
  ·(refine spec_of (by kernel_rfl) Tryz.func23 bT (fnOk (nb rfl) ?_);unfold bz)
   unfold curR curC
   (simp only[Nat.reduceSub,Zl,zn,Nat.reduceAdd,zF];try simp only[af]);(simp only[go_sem,seval,reduceCtorEq,List.replicate])
   (refine an [0] [] false (zd rfl) ?_ _ ?_ (hx) ?_ ?_;(focus (simp only[go_sem,seval,reduceCtorEq];done));(focus (simp only[go_sem,seval,reduceCtorEq];done));(focus (first | rfl | (simp only[go_sem,seval,reduceCtorEq];done))))
   simp(disch:=omega) only[go_sem,seval,reduceCtorEq]
   (refine an [0,2] [] false (zd rfl) ?_ _ ?_ (hy) ?_ ?_;(focus (simp only[go_sem,seval,reduceCtorEq];done));(focus (simp only[go_sem,seval,reduceCtorEq];done));(focus (first | rfl | (simp only[go_sem,seval,reduceCtorEq];done))))
   simp(disch:=omega) only[go_sem,seval,reduceCtorEq]
   (refine zE ?_ ?_<;>try simp only[go_sem,seval,reduceCtorEq])
 ·obtain⟨y,j2,h2,⟨hy1,hj2⟩,hy⟩:=dS hb j hj h1 (xs:=[1,2,9,40,1000000]) (by decide)
  unfold curR curC at hy
  simp only[iv,List.map_cons,List.map_nil,Zl,zn,Nat.zero_add,Nat.reduceAdd]at hy
  refine⟨4,y,0,j2,h2,⟨?_,hj2⟩, ?_⟩
  ·simp only[List.mem_cons,List.not_mem_nil,or_false]at hy1
   rcases hy1 with rfl | rfl | rfl | rfl | rfl<;>kernel_rfl
  ·(refine spec_of (by kernel_rfl) Tryz.func23 bT (fnOk (nb rfl) ?_);unfold bz)
   unfold curR curC
   (simp only[Nat.reduceSub,Zl,zn,Nat.reduceAdd,zF];try simp only[af]);(simp only[go_sem,seval,reduceCtorEq,List.replicate])
   (refine an [0] [] false (zd rfl) ?_ _ ?_ (hx) ?_ ?_;(focus (simp only[go_sem,seval,reduceCtorEq];done));(focus (simp only[go_sem,seval,reduceCtorEq];done));(focus (first | rfl | (simp only[go_sem,seval,reduceCtorEq];done))))
   simp(disch:=omega) only[go_sem,seval,reduceCtorEq]
   (refine an [0,2] [] false (zd rfl) ?_ _ ?_ (hy) ?_ ?_;(focus (simp only[go_sem,seval,reduceCtorEq];done));(focus (simp only[go_sem,seval,reduceCtorEq];done));(focus (first | rfl | (simp only[go_sem,seval,reduceCtorEq];done))))
   simp(disch:=omega) only[go_sem,seval,reduceCtorEq]
   (refine zE ?_ ?_<;>try simp only[go_sem,seval,reduceCtorEq])
 ·obtain⟨y,j2,h2,⟨hy1,hj2⟩,hy⟩:=dS hb j hj h1 (xs:=[1,2,9,40,1000000]) (by decide)
  unfold curR curC at hy
  simp only[iv,List.map_cons,List.map_nil,Zl,zn,Nat.zero_add,Nat.reduceAdd]at hy
  refine⟨5,y,0,j2,h2,⟨?_,hj2⟩, ?_⟩
  ·simp only[List.mem_cons,List.not_mem_nil,or_false]at hy1
   rcases hy1 with rfl | rfl | rfl | rfl | rfl<;>kernel_rfl
  ·(refine spec_of (by kernel_rfl) Tryz.func23 bT (fnOk (nb rfl) ?_);unfold bz)
   unfold curR curC
   (simp only[Nat.reduceSub,Zl,zn,Nat.reduceAdd,zF];try simp only[af]);(simp only[go_sem,seval,reduceCtorEq,List.replicate])
   (refine an [0] [] false (zd rfl) ?_ _ ?_ (hx) ?_ ?_;(focus (simp only[go_sem,seval,reduceCtorEq];done));(focus (simp only[go_sem,seval,reduceCtorEq];done));(focus (first | rfl | (simp only[go_sem,seval,reduceCtorEq];done))))
   simp(disch:=omega) only[go_sem,seval,reduceCtorEq]
   (refine an [0,2] [] false (zd rfl) ?_ _ ?_ (hy) ?_ ?_;(focus (simp only[go_sem,seval,reduceCtorEq];done));(focus (simp only[go_sem,seval,reduceCtorEq];done));(focus (first | rfl | (simp only[go_sem,seval,reduceCtorEq];done))))
   simp(disch:=omega) only[go_sem,seval,reduceCtorEq]
   (refine zE ?_ ?_<;>try simp only[go_sem,seval,reduceCtorEq])
 ·obtain⟨y,j2,h2,⟨hy1,hj2⟩,hy⟩:=dS hb j hj h1 (xs:=[1,3,5,20]) (by decide)
  unfold curR curC at hy
  simp only[iv,List.map_cons,List.map_nil,Zl,zn,Nat.zero_add,Nat.reduceAdd]at hy
  refine⟨6,0,y,j2,h2,⟨?_,hj2⟩, ?_⟩
  ·simp only[List.mem_cons,List.not_mem_nil,or_false]at hy1
   rcases hy1 with rfl | rfl | rfl | rfl<;>kernel_rfl
  ·(refine spec_of (by kernel_rfl) Tryz.func23 bT (fnOk (nb rfl) ?_);unfold bz)
   unfold curR curC
   (simp only[Nat.reduceSub,Zl,zn,Nat.reduceAdd,zF];try simp only[af]);(simp only[go_sem,seval,reduceCtorEq,List.replicate])
   (refine an [0] [] false (zd rfl) ?_ _ ?_ (hx) ?_ ?_;(focus (simp only[go_sem,seval,reduceCtorEq];done));(focus (simp only[go_sem,seval,reduceCtorEq];done));(focus (first | rfl | (simp only[go_sem,seval,reduceCtorEq];done))))
   simp(disch:=omega) only[go_sem,seval,reduceCtorEq]
   (refine an [0,2] [] false (zd rfl) ?_ _ ?_ (hy) ?_ ?_;(focus (simp only[go_sem,seval,reduceCtorEq];done));(focus (simp only[go_sem,seval,reduceCtorEq];done));(focus (first | rfl | (simp only[go_sem,seval,reduceCtorEq];done))))
   simp(disch:=omega) only[go_sem,seval,reduceCtorEq]
   (refine zE ?_ ?_<;>try simp only[go_sem,seval,reduceCtorEq])
 ·obtain⟨y,j2,h2,⟨hy1,hj2⟩,hy⟩:=dS hb j hj h1 (xs:=[2,5,101]) (by decide)
  obtain⟨z,j3,h3,⟨⟨z0,z1⟩,hj3⟩,hz⟩:=px hb j2 hj2 h2 (n:=4) (by omega)
  unfold curR curC at hy hz
  simp only[iv,List.map_cons,List.map_nil,Zl,zn,Nat.zero_add,Nat.reduceAdd]at hy
  refine⟨7,y,1+z,j3,h3,⟨?_,hj3⟩, ?_⟩
  ·have key:∀ y∈[2,5,101],∀ z∈[0,1,2,3],ae ⟨7,y,1+z⟩=true:=by decide+kernel
   exact key y hy1 z (by simp only[List.mem_cons,List.not_mem_nil,or_false];omega)
  ·(refine spec_of (by kernel_rfl) Tryz.func23 bT (fnOk (nb rfl) ?_);unfold bz)
   unfold curR curC
   (simp only[Nat.reduceSub,Zl,zn,Nat.reduceAdd,zF];try simp only[af]);(simp only[go_sem,seval,reduceCtorEq,List.replicate])
   (refine an [0] [] false (zd rfl) ?_ _ ?_ (hx) ?_ ?_;(focus (simp only[go_sem,seval,reduceCtorEq];done));(focus (simp only[go_sem,seval,reduceCtorEq];done));(focus (first | rfl | (simp only[go_sem,seval,reduceCtorEq];done))))
   simp(disch:=omega) only[go_sem,seval,reduceCtorEq]
   (refine an [0,2] [] false (zd rfl) ?_ _ ?_ (hy) ?_ ?_;(focus (simp only[go_sem,seval,reduceCtorEq];done));(focus (simp only[go_sem,seval,reduceCtorEq];done));(focus (first | rfl | (simp only[go_sem,seval,reduceCtorEq];done))))
   simp(disch:=omega) only[go_sem,seval,reduceCtorEq]
   (refine an [0] [] false (zd rfl) ?_ _ ?_ (hz) ?_ ?_;(focus (simp only[go_sem,seval,reduceCtorEq];done));(focus (simp only[go_sem,seval,reduceCtorEq];done));(focus (first | rfl | (simp only[go_sem,seval,reduceCtorEq];done))))
   simp(disch:=omega) only[go_sem,seval,reduceCtorEq]
   (refine zE ?_ ?_<;>try simp only[go_sem,seval,reduceCtorEq])
 ·obtain⟨y,j2,h2,⟨hy1,hj2⟩,hy⟩:=dS hb j hj h1 (xs:=[3,17,97,1000003]) (by decide)
  unfold curR curC at hy
  simp only[iv,List.map_cons,List.map_nil,Zl,zn,Nat.zero_add,Nat.reduceAdd]at hy
  refine⟨8,y,0,j2,h2,⟨?_,hj2⟩, ?_⟩
  ·simp only[List.mem_cons,List.not_mem_nil,or_false]at hy1
   rcases hy1 with rfl | rfl | rfl | rfl<;>kernel_rfl
  ·(refine spec_of (by kernel_rfl) Tryz.func23 bT (fnOk (nb rfl) ?_);unfold bz)
   unfold curR curC
   (simp only[Nat.reduceSub,Zl,zn,Nat.reduceAdd,zF];try simp only[af]);(simp only[go_sem,seval,reduceCtorEq,List.replicate])
   (refine an [0] [] false (zd rfl) ?_ _ ?_ (hx) ?_ ?_;(focus (simp only[go_sem,seval,reduceCtorEq];done));(focus (simp only[go_sem,seval,reduceCtorEq];done));(focus (first | rfl | (simp only[go_sem,seval,reduceCtorEq];done))))
   simp(disch:=omega) only[go_sem,seval,reduceCtorEq]
   (refine an [0,2] [] false (zd rfl) ?_ _ ?_ (hy) ?_ ?_;(focus (simp only[go_sem,seval,reduceCtorEq];done));(focus (simp only[go_sem,seval,reduceCtorEq];done));(focus (first | rfl | (simp only[go_sem,seval,reduceCtorEq];done))))
   simp(disch:=omega) only[go_sem,seval,reduceCtorEq]
   (refine zE ?_ ?_<;>try simp only[go_sem,seval,reduceCtorEq])
theorem MakeRing_d {b:List Int} (hb:CodeOk b) {m:Nat} (hm:m≤1000):∃ k p n:Int,ae ⟨k,p,n⟩=true∧Does Tryz.prog 5 [.d (bytes b),.d (.int m)] [] (bm k p n) []:=by
 obtain⟨i,h,hi,hd⟩:=ti hb hm
 obtain⟨k,p,n,j,h',⟨hr,hj⟩,hx⟩:=CG hb i hi h
 refine⟨k,p,n,hr, ?_⟩
 (refine spec_of (by kernel_rfl) Tryz.func5 sM (fnOk (nb rfl) ?_);unfold mt)
 unfold curR curC at hd hx
 (simp only[Nat.reduceSub,Zl,zn,Nat.reduceAdd,zF];try simp only[af]);(simp only[go_sem,seval,reduceCtorEq,List.replicate])
 (refine zC (hd) ?_)
 simp only[go_sem,seval,reduceCtorEq]
 (refine an [1] [] false (zd rfl) ?_ _ ?_ (hx) ?_ ?_;(focus (simp only[go_sem,seval,reduceCtorEq];done));(focus (simp only[go_sem,seval,reduceCtorEq];done));(focus (first | rfl | (simp only[go_sem,seval,reduceCtorEq];done))))
 simp(disch:=omega) only[go_sem,seval,reduceCtorEq]
 (refine zE ?_ ?_<;>try simp only[go_sem,seval,reduceCtorEq])
end Go.Proofs.YtjfmckhbmdjnpaaGreat
namespace Go.Proofs.YtjfmckhbmdjnpaaGreat
open Go.RowKit Go.Lift Go.ChangeShapes Go.WideShapes Plain
set_option maxRecDepth 100000
theorem CT {d:D} (h:HasD d .byte):∃ n,d=.byte n∧0≤n∧n≤255:=by
 cases d<;>simp only[HasD]at h
 exact⟨_,rfl,h⟩
theorem su:∀ {l:List D} {j:Nat},HasDL l j [.byte]→∃ xs:List Int,l=dby xs∧∀ x∈xs,0≤x∧x≤255
 | [],_,_=>⟨[],rfl,by simp⟩
 | x :: l,j,h=>by
  simp only[HasDL,Zl,zn,Nat.zero_add,Nat.mod_one,List.getD_cons_zero]at h
  obtain⟨n,rfl,hn⟩:=CT h.1
  obtain⟨xs,rfl,hx⟩:=su h.2
  exact⟨n :: xs,rfl,by simpa using⟨hn,hx⟩⟩
theorem Aw {d:D} (h:HasD d (.sl [.byte])):∃ xs:List Int,d=bytes xs∧xs.length≤9223372036854775807∧∀ x∈xs,0≤x∧x≤255:=by
 cases d<;>simp only[HasD]at h
 obtain⟨h1,h2,h3⟩:=h
 obtain⟨xs,rfl,hx⟩:=su h3
 simp only[dby,List.length_map,Zl,zn,Nat.zero_add,Nat.mul_one]at h2
 subst h2
 exact⟨xs,rfl,h1,hx⟩
structure BytIn (w:World) (v:Value) (b:List Int):Prop where
 rel:Rel w (topL w) id (at_ []) (.d (bytes b)) v
 len:b.length≤9223372036854775807
 wf:∀ x∈b,0≤x∧x≤255
section
variable {H : Type} {enc : TypeId × Value → H} {w : World} {base : Nat} {held : Bool} {r : Reach}
theorem Ac {b0:Nat} {v:Value} {d:DataW H} {p:List MemPlace} (hv:Value.okWide Tryz.prog w r b0 22 v) (h:DataW.Trod enc Tryz.prog w base (fun _=>true) held 22 v d p):
  ∃ b,BytIn w v b:=by
 obtain⟨A,n,c,rfl⟩:=okWide_slice Tryz.underlying22 hv
 obtain⟨fuel,hf⟩:=h
 obtain⟨ds,hR⟩:=tW 5 22 [.sl [.byte]] (by kernel_rfl) fuel [.slice A n c] _ hf (by kernel_rfl)
 obtain⟨h1,h2,h3⟩:=hR
 match ds,h1 with
 | [d0],_=>
  obtain⟨d',e1,e2,e3⟩:=h3 0 _ (.sl [.byte]) rfl rfl
  simp only[List.getElem?_cons_zero,zj]at e1
  subst e1
  obtain⟨b,rfl,hl,hs⟩:=Aw e3
  exact⟨b,by rw[Rel];exact e2,hl,hs⟩
end
end Go.Proofs.YtjfmckhbmdjnpaaGreat
namespace Go.Proofs.YtjfmckhbmdjnpaaGreat
open Go.RowKit Go.Lift Plain
set_option maxRecDepth 100000
structure Cur where
 i:Nat
 h:Int
def curS (b:List Int) (c:Cur):Option Root:=curR b c.i c.h
def kH (b:List Int) (c:Cur):Int × Cur:=if c.i<b.length then (a255 (gX (gH c.h)+b.getD c.i 0),⟨c.i+1,gH c.h⟩) else (gX (gH c.h),⟨c.i,gH c.h⟩)
def ao (b:List Int) (n:Int) (c:Cur):Int × Cur:=((kH b c).1 % n,(kH b c).2)
def j5 (b:List Int) (n:Int) (c:Cur):Bool × Cur:=((ao b n c).1==0,(ao b n c).2)
theorem F6 {b:List Int} (c:Cur):0≤(kH b c).1∧(kH b c).1≤255:=by
 unfold kH
 split
 ·exact oB _
 ·exact oB _
theorem zr {b:List Int} {c:Cur} (h:c.i≤b.length):(kH b c).2.i≤b.length:=by
 unfold kH
 split
 ·rename_i h;exact h
 ·exact h
theorem ct {b:List Int} {n:Int} (hn:1≤n) (c:Cur):0≤(ao b n c).1∧(ao b n c).1<n:=⟨Int.emod_nonneg _ (by omega),Int.emod_lt_of_pos _ (by omega)⟩
theorem cI {b:List Int} {n:Int} {c:Cur} (h:c.i≤b.length):(ao b n c).2.i≤b.length:=zr h
theorem zi {b:List Int} {n:Int} {c:Cur} (h:c.i≤b.length):(j5 b n c).2.i≤b.length:=zr h
theorem H9 {b:List Int} (hb:CodeOk b) {c:Cur} (hi:c.i≤b.length):Does Tryz.prog 108 [.ptr 0 0] [curS b c] (.d (.int (kH b c).1)) [curS b (kH b c).2]:=by
 obtain⟨i,h⟩:=c
 simp only at hi
 have hl:=hb.len
 have g1:IntKind.i64.wrap (IntKind.i64.wrap (h*6364136223846793005)+1442695040888963407)=gH h:=rfl
 have g2:IntKind.i64.wrap ((BitVec.ofInt 64 (IntKind.i64.wrap ((BitVec.ofInt 64 ((gH h).fdiv (2 ^ (min 33 64))) ^^^ BitVec.ofInt 64 ((gH h).fdiv (2 ^ (min 45 64)))).toNat:Int))&&& 255#64).toNat:Int)=gX (gH h):=rfl
 have g3:=oB (IntKind.i64.wrap ((BitVec.ofInt 64 ((gH h).fdiv (2 ^ (min 33 64))) ^^^ BitVec.ofInt 64 ((gH h).fdiv (2 ^ (min 45 64)))).toNat:Int))
 change 0≤gX (gH h)∧gX (gH h)≤255 at g3
 by_cases hlt:i<b.length
 ·have d1:(i:Int)<b.length:=by omega
  have g:b[i]? =some b[i]:=zg hlt
  have hw:=hb.wf b[i] (List.getElem_mem _)
  have g4:IntKind.i64.wrap ((BitVec.ofInt 64 (gX (gH h)+b[i])&&& 255#64).toNat:Int)=a255 (gX (gH h)+b[i]):=rfl
  have g5:(i:Int)+1=((i+1:Nat):Int):=by omega
  have e:kH b ⟨i,h⟩=(a255 (gX (gH h)+b[i]),⟨i+1,gH h⟩):=by unfold kH;rw[if_pos hlt,ab hlt]
  rw[e]
  (refine spec_of (by kernel_rfl) Tryz.func108 eK (fnOk (nb rfl) ?_);unfold dq)
  unfold curS curR curC bytes
  (simp only[Nat.reduceSub,Zl,zn,Nat.reduceAdd,zF];try simp only[af]);(simp only[go_sem,seval,reduceCtorEq,List.replicate])
  simp(disch:=omega) only[go_sem,seval,reduceCtorEq,g1,g2,d1,g,g4,g5,Option.map_some]
  (refine zE ?_ ?_<;>try simp only[go_sem,seval,reduceCtorEq])
 ·have d1:¬ (i:Int)<b.length:=by omega
  have e:kH b ⟨i,h⟩=(gX (gH h),⟨i,gH h⟩):=by unfold kH;rw[if_neg hlt]
  rw[e]
  (refine spec_of (by kernel_rfl) Tryz.func108 eK (fnOk (nb rfl) ?_);unfold dq)
  unfold curS curR curC bytes
  (simp only[Nat.reduceSub,Zl,zn,Nat.reduceAdd,zF];try simp only[af]);(simp only[go_sem,seval,reduceCtorEq,List.replicate])
  simp(disch:=omega) only[go_sem,seval,reduceCtorEq,g1,g2,d1]
  (refine zE ?_ ?_<;>try simp only[go_sem,seval,reduceCtorEq])
theorem fJ {b:List Int} (hb:CodeOk b) {c:Cur} (hi:c.i≤b.length) {n:Int} (hn:1≤n∧n≤1048576):Does Tryz.prog 66 [.ptr 0 0,.d (.int n)] [curS b c] (.d (.int (ao b n c).1)) [curS b (ao b n c).2]:=by
 have hd:=H9 hb hi
 have hx:=F6 (b:=b) c
 have e:=Int.tmod_eq_emod_of_nonneg hx.1 (b:=n)
 have d0:¬ n≤0:=by omega
 have d1:n≠0:=by omega
 (refine spec_of (by kernel_rfl) Tryz.func66 lY (fnOk (nb rfl) ?_);unfold fY)
 unfold ao
 unfold curS curR curC at hd ⊢
 (simp only[Nat.reduceSub,Zl,zn,Nat.reduceAdd,zF];try simp only[af]);(simp only[go_sem,seval,reduceCtorEq,List.replicate])
 simp only[go_sem,seval,reduceCtorEq,d0]
 (refine an [0] [] false (zd rfl) ?_ _ ?_ (hd) ?_ ?_;(focus (simp only[go_sem,seval,reduceCtorEq];done));(focus (simp only[go_sem,seval,reduceCtorEq];done));(focus (first | rfl | (simp only[go_sem,seval,reduceCtorEq];done))))
 simp only[go_sem,seval,reduceCtorEq,e,d1]
 (repeat (refine And.intro (by omega) ?_))
 (refine zE ?_ ?_<;>try simp only[go_sem,seval,reduceCtorEq])
theorem Br {b:List Int} (hb:CodeOk b) {c:Cur} (hi:c.i≤b.length) {n:Int} (hn:1≤n∧n≤1048576):Does Tryz.prog 71 [.ptr 0 0,.d (.int n)] [curS b c] (.d (.bool (j5 b n c).1)) [curS b (j5 b n c).2]:=by
 have hd:=fJ hb hi hn
 (refine spec_of (by kernel_rfl) Tryz.func71 uw (fnOk (nb rfl) ?_);unfold nU)
 unfold j5
 unfold curS curR curC at hd ⊢
 (simp only[Nat.reduceSub,Zl,zn,Nat.reduceAdd,zF];try simp only[af]);(simp only[go_sem,seval,reduceCtorEq,List.replicate])
 (refine an [0] [] false (zd rfl) ?_ _ ?_ (hd) ?_ ?_;(focus (simp only[go_sem,seval,reduceCtorEq];done));(focus (simp only[go_sem,seval,reduceCtorEq];done));(focus (first | rfl | (simp only[go_sem,seval,reduceCtorEq];done))))
 simp only[go_sem,seval,reduceCtorEq]
 (refine zE ?_ ?_<;>try simp only[go_sem,seval,reduceCtorEq])
def swp (xs:List Int) (i k:Nat):List Int:=(xs.set i (xs.getD k 0)).set k (xs.getD i 0)
def bp (b:List Int) (c:Cur) (xs:List Int):Nat→Cur × List Int
 | 0=>(c,xs)
 | i+1=>((ao b (i+1:Nat) (bp b c xs i).1).2,swp (bp b c xs i).2 i (ao b (i+1:Nat) (bp b c xs i).1).1.toNat)
theorem G2 (xs:List Int) (i k:Nat):(swp xs i k).length=xs.length:=by simp [swp]
theorem kG (b:List Int) (c:Cur) (xs:List Int):∀ i,(bp b c xs i).2.length=xs.length
 | 0=>rfl
 | i+1=>by show (swp _ _ _).length=_;rw[G2,kG b c xs i]
theorem qC {b:List Int} {c:Cur} (h:c.i≤b.length) (xs:List Int):∀ i,(bp b c xs i).1.i≤b.length
 | 0=>h
 | i+1=>cI (n:=((i+1:Nat):Int)) (qC h xs i)
theorem DA {xs:List Int} {i k:Nat} (hi:i<xs.length) (hk:k<xs.length):(swp xs i k).Perm xs:=by
 unfold swp
 rw[ab hi,ab hk]
 exact List.set_set_perm hi hk
theorem lD {b:List Int} (c:Cur) (xs:List Int):∀ i,i≤xs.length→(bp b c xs i).2.Perm xs
 | 0,_=>List.Perm.refl _
 | i+1,h=>by
  have hl:=kG b c xs i
  have hb:=ct (b:=b) (n:=((i+1:Nat):Int)) (by omega) (bp b c xs i).1
  exact(DA (by omega) (by omega)).trans (lD c xs i (by omega))
theorem xt {b:List Int} (hb:CodeOk b) {c:Cur} (hi:c.i≤b.length) {xs:List Int} (hn:xs.length≤1048576):
  Does Tryz.prog 50 [.ptr 0 0,.own 1 0 xs.length] [curS b c,some ⟨1,false,iv xs⟩] (.own 2 0 xs.length) [curS b (bp b c xs xs.length).1,some ⟨1,false,iv xs⟩,some ⟨1,true,iv (bp b c xs xs.length).2⟩]:=by
 (refine spec_of (by kernel_rfl) Tryz.func50 iZ (fnOk (nb rfl) ?_);unfold eO)
 unfold curS curR curC
 (simp only[Nat.reduceSub,Zl,zn,Nat.reduceAdd,zF];try simp only[af]);(simp only[go_sem,seval,reduceCtorEq,List.replicate])
 (refine zC (om (xs:=xs) (by omega)) ?_)
 simp only[go_sem,seval,reduceCtorEq]
 have e0:(bp b c xs 0).1=c:=rfl
 have e1:(bp b c xs 0).2=xs:=rfl
 refine aN (xs.length) (mkB 37 68719460800) (fun k=>[(13,.d (.int k))]) (fun k=>[(0,curC b (bp b c xs k).1.i (bp b c xs k).1.h),(2,iv (bp b c xs k).2)]) (h1:=by first | (simp only[go_sem,seval,reduceCtorEq,nz,na,n1,e0,e1,curC];first | done | rfl) | rfl) (h2:=by first | (simp only[go_sem,seval,reduceCtorEq,nz,na,n1,e0,e1,curC];first | done | rfl) | rfl) (hr:=fun k hk=> ?_)
 unfold dW
 by_cases hlt:k<xs.length
 ·have d1:(k:Int)<xs.length:=by omega
  have hs:bp b c xs (k+1)=((ao b (k+1:Nat) (bp b c xs k).1).2,swp (bp b c xs k).2 k (ao b (k+1:Nat) (bp b c xs k).1).1.toNat):=rfl
  have hl:=kG b c xs k
  have hck:=qC hi xs k
  generalize bp b c xs k=S at hs hl hck
  obtain⟨c1,L⟩:=S
  simp only at hl hck hs
  have hr:=ct (b:=b) (n:=((k+1:Nat):Int)) (by omega) c1
  have hd:=fJ hb hck (n:=((k+1:Nat):Int)) (by omega)
  generalize ao b ((k+1:Nat):Int) c1=T at hr hd hs
  obtain⟨r,c2⟩:=T
  simp only at hr hd hs
  obtain⟨q,rfl⟩:=Int.eq_ofNat_of_zero_le hr.1
  have hq:q<L.length:=by omega
  have hk:k<L.length:=by omega
  have g1:L[k]? =some L[k]:=zg hk
  have g2:L[q]? =some L[q]:=zg hq
  have d2:(k:Int)+1=((k+1:Nat):Int):=by omega
  have d3:(q:Int)<L.length:=by omega
  have hsw:swp L k q=(L.set k L[q]).set q L[k]:=by unfold swp;rw[ab hk,ab hq]
  have p1:=cD (xs:=L) (x:=L[q]) hk
  have p2:=cD (xs:=L.set k L[q]) (x:=L[k]) (n:=q) (by rw[List.length_set];exact hq)
  have e1:(bp b c xs (k+1)).1=c2:=by rw[hs]
  have e2:(bp b c xs (k+1)).2=(L.set k L[q]).set q L[k]:=by rw[hs];simp only[Int.toNat_natCast,hsw]
  unfold curS curR curC at hd
  simp(disch:=omega) only[go_sem,seval,reduceCtorEq,d1,curC,d2]
  (refine an [0] [] false (zd rfl) ?_ _ ?_ (hd) ?_ ?_;(focus (simp only[go_sem,seval,reduceCtorEq];done));(focus (simp only[go_sem,seval,reduceCtorEq];done));(focus (first | rfl | (simp only[go_sem,seval,reduceCtorEq];done))))
  simp(disch:=omega) only[go_sem,seval,reduceCtorEq,g1,g2,Option.map_some,p1,p2,List.length_set,hl]
  (repeat (refine And.intro (by omega) ?_))
  (refine Next.drop (mkB 37 68719460800) (by omega) (h1:= ?_) (h2:= ?_)<;>first | (simp only[go_sem,seval,reduceCtorEq,nz,na,n1,e1,e2,curC];first | done | rfl) | rfl | skip)
 ·have d1:¬ (k:Int)<xs.length:=by omega
  have hk:k=xs.length:=by omega
  subst hk
  simp(disch:=omega) only[go_sem,seval,reduceCtorEq,d1,curC]
  (refine zE ?_ ?_<;>try simp only[go_sem,seval,reduceCtorEq])
def gLab (b:List Int) (n:Int) (c:Cur):Nat→Cur × List Int
 | 0=>(c,[])
 | k+1=>((ao b n (gLab b n c k).1).2,if (ao b n (gLab b n c k).1).1∈(gLab b n c k).2 then (gLab b n c k).2 else (gLab b n c k).2++[(ao b n (gLab b n c k).1).1])
def dimL (x:Int):Int:=1+(x+1) % 3
def bt (ls:List Int):List Int:=ls.map dimL
theorem gz (ls:List Int):(bt ls).length=ls.length:=by simp [bt]
theorem xA {b:List Int} {n:Int} {c:Cur} (h:c.i≤b.length):∀ k,(gLab b n c k).1.i≤b.length
 | 0=>h
 | k+1=>cI (n:=n) (xA h k)
theorem tp {b:List Int} {n:Int} (hn:1≤n) (c:Cur):∀ k,∀ x∈(gLab b n c k).2,0≤x∧x<n
 | 0,x,h=>by simp [gLab]at h
 | k+1,x,h=>by
  simp only[gLab]at h
  split at h
  ·exact tp hn c k x h
  ·rcases List.mem_append.1 h with h | h
   ·exact tp hn c k x h
   ·rw[List.mem_singleton.1 h]
    exact ct hn _
theorem lE (b:List Int) (n:Int) (c:Cur):∀ k,(gLab b n c k).2.Nodup
 | 0=>by simp [gLab]
 | k+1=>by
  simp only[gLab]
  split
  ·exact lE b n c k
  ·rename_i h
   exact List.nodup_append.2 ⟨lE b n c k,by simp,fun x hx y hy e=>h (by rw[← List.mem_singleton.1 hy, ← e];exact hx)⟩
theorem qE (b:List Int) (n:Int) (c:Cur):∀ k,(gLab b n c k).2.length≤k
 | 0=>by simp [gLab]
 | k+1=>by
  have:=qE b n c k
  simp only[gLab]
  split
  ·omega
  ·simp;omega
def bN (b:List Int) (c:Cur):Cur × List Int:=gLab b 6 (ao b 4 c).2 (ao b 4 c).1.toNat
theorem yT {b:List Int} (hb:CodeOk b) {c:Cur} (hi:c.i≤b.length):
  Does Tryz.prog 110 [.ptr 0 0,.d (.int 6),.d (.int 3)] [curS b c] (.tup [.own 1 0 (bN b c).2.length,.own 2 0 (bN b c).2.length])
   [curS b (bN b c).1,some ⟨1,true,iv (bN b c).2⟩,some ⟨1,true,iv (bt (bN b c).2)⟩]:=by
 have h0:=fJ hb hi (n:=4) (by omega)
 have hr0:=ct (b:=b) (n:=4) (by omega) c
 have hc0:=cI (n:=4) hi
 (refine spec_of (by kernel_rfl) Tryz.func110 rq (fnOk (nb rfl) ?_);unfold kX)
 unfold bN
 generalize ao b 4 c=T0 at h0 hr0 hc0
 obtain⟨m0,c0⟩:=T0
 simp only at h0 hr0 hc0
 obtain⟨m,rfl⟩:=Int.eq_ofNat_of_zero_le hr0.1
 simp only[Int.toNat_natCast]
 unfold curS curR curC at h0 ⊢
 (simp only[Nat.reduceSub,Zl,zn,Nat.reduceAdd,zF];try simp only[af]);(simp only[go_sem,seval,reduceCtorEq,List.replicate])
 (refine an [0] [] false (zd rfl) ?_ _ ?_ (h0) ?_ ?_;(focus (simp only[go_sem,seval,reduceCtorEq];done));(focus (simp only[go_sem,seval,reduceCtorEq];done));(focus (first | rfl | (simp only[go_sem,seval,reduceCtorEq];done))))
 simp(disch:=omega) only[go_sem,seval,reduceCtorEq]
 have e0:gLab b 6 c0 0=(c0,[]):=rfl
 refine aN (m) (mkB 42 1099511379968) (fun k=>[(8,.own 1 0 (gLab b 6 c0 k).2.length),(9,.own 2 0 (gLab b 6 c0 k).2.length),(10,.d (.int ((m:Int)-k)))]) (fun k=>[(0,curC b (gLab b 6 c0 k).1.i (gLab b 6 c0 k).1.h),(1,iv (gLab b 6 c0 k).2),(2,iv (bt (gLab b 6 c0 k).2))]) (h1:=by first | (simp only[go_sem,seval,reduceCtorEq,nz,na,n1,e0,curC,bK,bt];first | done | rfl) | rfl) (h2:=by first | (simp only[go_sem,seval,reduceCtorEq,nz,na,n1,e0,curC,bK,bt];first | done | rfl) | rfl) (hr:=fun k hk=> ?_)
 unfold jp
 by_cases hlt:k<m
 ·have d1:(m:Int)-k>0:=by omega
  have hs:gLab b 6 c0 (k+1)=((ao b 6 (gLab b 6 c0 k).1).2,if (ao b 6 (gLab b 6 c0 k).1).1∈(gLab b 6 c0 k).2 then (gLab b 6 c0 k).2 else (gLab b 6 c0 k).2++[(ao b 6 (gLab b 6 c0 k).1).1]):=rfl
  have hl:=qE b 6 c0 k
  have hck:=xA (n:=6) hc0 k
  generalize gLab b 6 c0 k=S at hs hl hck
  obtain⟨c1,L⟩:=S
  simp only at hl hck hs
  have hr:=ct (b:=b) (n:=6) (by omega) c1
  have hd:=fJ hb hck (n:=6) (by omega)
  generalize ao b 6 c1=T at hr hd hs
  obtain⟨x,c2⟩:=T
  simp only at hr hd hs
  have e1:(gLab b 6 c0 (k+1)).1=c2:=by rw[hs]
  have d5:(m:Int)-k-1=(m:Int)-((k+1:Nat):Int):=by omega
  unfold curS curR curC at hd
  simp(disch:=omega) only[go_sem,seval,reduceCtorEq,d1,curC,bt]
  (refine an [0] [] false (zd rfl) ?_ _ ?_ (hd) ?_ ?_;(focus (simp only[go_sem,seval,reduceCtorEq];done));(focus (simp only[go_sem,seval,reduceCtorEq];done));(focus (first | rfl | (simp only[go_sem,seval,reduceCtorEq];done))))
  simp(disch:=omega) only[go_sem,seval,reduceCtorEq]
  (refine zC (gr (xs:=L) (x:=x) (by omega)) ?_)
  simp(disch:=omega) only[go_sem,seval,reduceCtorEq]
  by_cases hm:x∈L
  ·have d2:¬ bR L x<0:=fun h=>dZ.1 h hm
   have e2:(gLab b 6 c0 (k+1)).2=L:=by rw[hs];exact if_pos hm
   simp(disch:=omega) only[go_sem,seval,reduceCtorEq,d2,d5]
   (refine Next.drop (mkB 42 1099511379968) (by omega) (h1:= ?_) (h2:= ?_)<;>first | (simp only[go_sem,seval,reduceCtorEq,nz,na,n1,e1,e2,curC,bt];first | done | rfl) | rfl | skip)
  ·have d2:bR L x<0:=dZ.2 hm
   have e2:(gLab b 6 c0 (k+1)).2=L++[x]:=by rw[hs];exact if_neg hm
   have e3:List.map dimL (L++[x])=L.map dimL++[1+(x+1) % 3]:=by simp [dimL]
   have e4:=Int.tmod_eq_emod_of_nonneg (a:=x+1) (b:=3) (by omega)
   simp(disch:=omega) only[go_sem,seval,reduceCtorEq,d2,d5,e4]
   have el:(L++[x]).length=L.length+1:=by simp
   (repeat (refine And.intro (by omega) ?_))
   (refine Next.drop (mkB 42 1099511379968) (by omega) (h1:= ?_) (h2:= ?_)<;>first | (simp only[go_sem,seval,reduceCtorEq,nz,na,n1,e1,e2,e3,el,curC,bt];first | done | rfl) | rfl | skip)
 ·have d1:¬ (m:Int)-k>0:=by omega
  have hk:k=m:=by omega
  subst hk
  simp(disch:=omega) only[go_sem,seval,reduceCtorEq,d1,curC,bt]
  (refine zE ?_ ?_<;>try simp only[go_sem,seval,reduceCtorEq])
set_option maxRecDepth 100000
def oneE (r:Rg) (wd:Nat):List Int:=(List.replicate wd 0).set 0 (if r.k=5∨r.k=6 then top r else if r.k=4 then 0 else 1)
theorem fE (r:Rg) (wd:Nat):(oneE r wd).length=wd:=by simp [oneE]
theorem fD {wd:Nat} (h:1≤wd) (x:Int):AV.d (.int x) :: iv (List.drop 1 (List.replicate wd 0))=iv ((List.replicate wd 0).set 0 x):=by
 obtain⟨n,rfl⟩:∃ n,wd=n+1:=⟨wd-1,by omega⟩
 simp [iv,List.replicate_succ]
theorem wu {kk pp nn:Int} {wd:Nat} (hr:ae ⟨kk,pp,nn⟩=true) (hw:ah ⟨kk,pp,nn⟩=wd) (h1:1≤wd∧wd≤6):Does Tryz.prog 123 [bm kk pp nn] [] (.own 0 0 wd) [some ⟨1,true,iv (oneE ⟨kk,pp,nn⟩ wd)⟩]:=by
 have hlr:(List.replicate wd (0:Int)).length=wd:=List.length_replicate
 (refine spec_of (by kernel_rfl) Tryz.func123 vz (fnOk (nb rfl) ?_);unfold oX)
 (simp only[Nat.reduceSub,Zl,zn,Nat.reduceAdd,zF];try simp only[af]);(simp only[go_sem,seval,reduceCtorEq,List.replicate])
 (refine aV (f8 kk pp nn) ?_ ?_ ?_;(focus (simp only[go_sem,seval,reduceCtorEq,hw];done));(first | rfl | (focus (simp only[go_sem];done))))
 simp(disch:=omega) only[go_sem,seval,reduceCtorEq,hw]
 refine And.intro ⟨by omega,by omega⟩ ?_
 by_cases h5:kk=5
 ·have c:(kk==5)=true:=by simp [h5]
  have e:oneE ⟨kk,pp,nn⟩ wd=(List.replicate wd 0).set 0 (top ⟨kk,pp,nn⟩):=by unfold oneE;rw[if_pos (.inl h5)]
  have e2:=fD h1.1 (top ⟨kk,pp,nn⟩)
  simp(disch:=omega) only[go_sem,seval,reduceCtorEq,c]
  (refine zC (mR kk pp nn hr) ?_)
  simp(disch:=omega) only[go_sem,seval,reduceCtorEq]
  refine⟨by omega,by rw[hlr];omega, ?_⟩
  rw[e2, ← e]
  (refine zE ?_ ?_<;>try simp only[go_sem,seval,reduceCtorEq])
 have c5:(kk==5)=false:=by simp [h5]
 by_cases h6:kk=6
 ·have c:(kk==6)=true:=by simp [h6]
  have e:oneE ⟨kk,pp,nn⟩ wd=(List.replicate wd 0).set 0 (top ⟨kk,pp,nn⟩):=by unfold oneE;rw[if_pos (.inr h6)]
  have e2:=fD h1.1 (top ⟨kk,pp,nn⟩)
  simp(disch:=omega) only[go_sem,seval,reduceCtorEq,c5,c]
  (refine zC (mR kk pp nn hr) ?_)
  simp(disch:=omega) only[go_sem,seval,reduceCtorEq]
  refine⟨by omega,by rw[hlr];omega, ?_⟩
  rw[e2, ← e]
  (refine zE ?_ ?_<;>try simp only[go_sem,seval,reduceCtorEq])
 have c6:(kk==6)=false:=by simp [h6]
 by_cases h4:kk=4
 ·have c:(kk==4)=true:=by simp [h4]
  have e:oneE ⟨kk,pp,nn⟩ wd=(List.replicate wd 0).set 0 0:=by unfold oneE;rw[if_neg (fun h=>h.elim h5 h6),if_pos h4]
  have e2:=fD h1.1 0
  simp(disch:=omega) only[go_sem,seval,reduceCtorEq,c5,c6,c]
  refine⟨by omega,by rw[hlr];omega, ?_⟩
  rw[e2, ← e]
  (refine zE ?_ ?_<;>try simp only[go_sem,seval,reduceCtorEq])
 ·have c:(kk==4)=false:=by simp [h4]
  have e:oneE ⟨kk,pp,nn⟩ wd=(List.replicate wd 0).set 0 1:=by unfold oneE;rw[if_neg (fun h=>h.elim h5 h6),if_neg h4]
  have e2:=fD h1.1 1
  simp(disch:=omega) only[go_sem,seval,reduceCtorEq,c5,c6,c]
  refine⟨by omega,by rw[hlr];omega, ?_⟩
  rw[e2, ← e]
  (refine zE ?_ ?_<;>try simp only[go_sem,seval,reduceCtorEq])
def gEl (b:List Int) (T:Int) (wd:Nat) (c:Cur):Nat→Cur × List Int
 | 0=>(c,List.replicate wd 0)
 | k+1=>((j5 b 12 (ao b (min 256 (T+1)) (gEl b T wd c k).1).2).2,
   (gEl b T wd c k).2.set k (if (j5 b 12 (ao b (min 256 (T+1)) (gEl b T wd c k).1).2).1=true then T else (ao b (min 256 (T+1)) (gEl b T wd c k).1).1))
theorem xB (b:List Int) (T:Int) (wd:Nat) (c:Cur):∀ k,(gEl b T wd c k).2.length=wd
 | 0=>by simp [gEl]
 | k+1=>by simp only[gEl,List.length_set];exact xB b T wd c k
theorem Ay {b:List Int} {T:Int} {wd:Nat} {c:Cur} (h:c.i≤b.length):∀ k,(gEl b T wd c k).1.i≤b.length
 | 0=>h
 | k+1=>zi (n:=12) (cI (n:=min 256 (T+1)) (Ay h k))
def j8 (b:List Int) (r:Rg) (wd:Nat) (c:Cur):Cur × List Int:=
 if (ao b 6 c).1=0 then ((ao b 6 c).2,aA r.k r.p wd) else if (ao b 6 c).1=1 then ((ao b 6 c).2,oneE r wd) else gEl b (top r) wd (ao b 6 c).2 wd
theorem F5 {b:List Int} {r:Rg} {wd:Nat} {c:Cur} (h:c.i≤b.length):(j8 b r wd c).1.i≤b.length:=by
 unfold j8
 split
 ·exact cI (n:=6) h
 ·split
  ·exact cI (n:=6) h
  ·exact Ay (cI (n:=6) h) _
theorem wB {b:List Int} {r:Rg} {wd:Nat} {c:Cur}:(j8 b r wd c).2.length=wd:=by
 unfold j8
 split
 ·exact bI _ _ _
 ·split
  ·exact fE _ _
  ·exact xB _ _ _ _ _
set_option maxHeartbeats 800000 in
theorem CH {b:List Int} (hb:CodeOk b) {c:Cur} (hi:c.i≤b.length) {kk pp nn:Int} {wd:Nat} (hr:ae ⟨kk,pp,nn⟩=true) (hw:ah ⟨kk,pp,nn⟩=wd) (h1:1≤wd∧wd≤6):
  Does Tryz.prog 129 [.ptr 0 0,bm kk pp nn] [curS b c] (.own 1 0 wd) [curS b (j8 b ⟨kk,pp,nn⟩ wd c).1,some ⟨1,true,iv (j8 b ⟨kk,pp,nn⟩ wd c).2⟩]:=by
 have h0:=fJ hb hi (n:=6) (by omega)
 have hr0:=ct (b:=b) (n:=6) (by omega) c
 have hc0:=cI (n:=6) hi
 have ht:=dE hr
 have hg:j8 b ⟨kk,pp,nn⟩ wd c=if (ao b 6 c).1=0 then ((ao b 6 c).2,aA kk pp wd) else if (ao b 6 c).1=1 then ((ao b 6 c).2,oneE ⟨kk,pp,nn⟩ wd) else gEl b (top ⟨kk,pp,nn⟩) wd (ao b 6 c).2 wd:=rfl
 rw[hg]
 generalize ao b 6 c=T0 at h0 hr0 hc0
 obtain⟨x,c0⟩:=T0
 simp only at h0 hr0 hc0 ⊢
 (refine spec_of (by kernel_rfl) Tryz.func129 uu (fnOk (nb rfl) ?_);unfold nS)
 unfold curS curR curC at h0 ⊢
 (simp only[Nat.reduceSub,Zl,zn,Nat.reduceAdd,zF];try simp only[af]);(simp only[go_sem,seval,reduceCtorEq,List.replicate])
 (refine an [0] [] false (zd rfl) ?_ _ ?_ (h0) ?_ ?_;(focus (simp only[go_sem,seval,reduceCtorEq];done));(focus (simp only[go_sem,seval,reduceCtorEq];done));(focus (first | rfl | (simp only[go_sem,seval,reduceCtorEq];done))))
 simp(disch:=omega) only[go_sem,seval,reduceCtorEq]
 by_cases hx0:x=0
 ·have d:(x==0)=true:=by simp [hx0]
  simp only[if_pos hx0]
  simp(disch:=omega) only[go_sem,seval,reduceCtorEq,d]
  (refine zC (wr (kk:=kk) (pp:=pp) (nn:=nn) hw h1) ?_)
  simp(disch:=omega) only[go_sem,seval,reduceCtorEq]
  (refine zE ?_ ?_<;>try simp only[go_sem,seval,reduceCtorEq])
 have d0:(x==0)=false:=by simp [hx0]
 by_cases hx1:x=1
 ·have d:(x==1)=true:=by simp [hx1]
  simp only[if_neg hx0,if_pos hx1]
  simp(disch:=omega) only[go_sem,seval,reduceCtorEq,d0,d]
  (refine zC (wu (kk:=kk) (pp:=pp) (nn:=nn) hr hw h1) ?_)
  simp(disch:=omega) only[go_sem,seval,reduceCtorEq]
  (refine zE ?_ ?_<;>try simp only[go_sem,seval,reduceCtorEq])
 have d1:(x==1)=false:=by simp [hx1]
 simp only[if_neg hx0,if_neg hx1]
 simp(disch:=omega) only[go_sem,seval,reduceCtorEq,d0,d1]
 (refine aV (f8 kk pp nn) ?_ ?_ ?_;(focus (simp only[go_sem,seval,reduceCtorEq,hw];done));(first | rfl | (focus (simp only[go_sem];done))))
 simp(disch:=omega) only[go_sem,seval,reduceCtorEq,hw]
 refine And.intro ⟨by omega,by omega⟩ ?_
 have e0:gEl b (top ⟨kk,pp,nn⟩) wd c0 0=(c0,List.replicate wd 0):=rfl
 refine aN (wd) (mkB 43 4398038122560) (fun k=>[(22,.d (.int k))]) (fun k=>[(0,curC b (gEl b (top ⟨kk,pp,nn⟩) wd c0 k).1.i (gEl b (top ⟨kk,pp,nn⟩) wd c0 k).1.h),(2,iv (gEl b (top ⟨kk,pp,nn⟩) wd c0 k).2)]) (h1:=by first | (simp only[go_sem,seval,reduceCtorEq,nz,na,n1,e0,curC];first | done | rfl) | rfl) (h2:=by first | (simp only[go_sem,seval,reduceCtorEq,nz,na,n1,e0,curC];first | done | rfl) | rfl) (hr:=fun k hk=> ?_)
 unfold mf
 by_cases hlt:k<wd
 ·have q1:(k:Int)<wd:=by omega
  have hs:gEl b (top ⟨kk,pp,nn⟩) wd c0 (k+1)=((j5 b 12 (ao b (min 256 (top ⟨kk,pp,nn⟩+1)) (gEl b (top ⟨kk,pp,nn⟩) wd c0 k).1).2).2,
   (gEl b (top ⟨kk,pp,nn⟩) wd c0 k).2.set k (if (j5 b 12 (ao b (min 256 (top ⟨kk,pp,nn⟩+1)) (gEl b (top ⟨kk,pp,nn⟩) wd c0 k).1).2).1=true then top ⟨kk,pp,nn⟩ else (ao b (min 256 (top ⟨kk,pp,nn⟩+1)) (gEl b (top ⟨kk,pp,nn⟩) wd c0 k).1).1)):=rfl
  have hl:=xB b (top ⟨kk,pp,nn⟩) wd c0 k
  have hck:=Ay (T:=top ⟨kk,pp,nn⟩) (wd:=wd) hc0 k
  generalize gEl b (top ⟨kk,pp,nn⟩) wd c0 k=S at hs hl hck
  obtain⟨c1,L⟩:=S
  simp only at hl hck hs
  have hd1:=fJ hb hck (n:=min 256 (top ⟨kk,pp,nn⟩+1)) (by omega)
  have hk1:=cI (n:=min 256 (top ⟨kk,pp,nn⟩+1)) hck
  generalize ao b (min 256 (top ⟨kk,pp,nn⟩+1)) c1=T at hd1 hk1 hs
  obtain⟨y,c2⟩:=T
  simp only at hd1 hk1 hs
  have hd2:=Br hb hk1 (n:=12) (by omega)
  generalize j5 b 12 c2=U at hd2 hs
  obtain⟨o,c3⟩:=U
  simp only at hd2 hs
  have e1:(gEl b (top ⟨kk,pp,nn⟩) wd c0 (k+1)).1=c3:=by rw[hs]
  have hk:k<L.length:=by omega
  have p1:=cD (xs:=L) (x:=y) hk
  unfold curS curR curC at hd1 hd2
  simp(disch:=omega) only[go_sem,seval,reduceCtorEq,q1,curC]
  (refine zC (mR kk pp nn hr) ?_)
  simp(disch:=omega) only[go_sem,seval,reduceCtorEq]
  (refine an [0] [] false (zd rfl) ?_ _ ?_ (hd1) ?_ ?_;(focus (simp only[go_sem,seval,reduceCtorEq];done));(focus (simp only[go_sem,seval,reduceCtorEq];done));(focus (first | rfl | (simp only[go_sem,seval,reduceCtorEq];done))))
  simp(disch:=omega) only[go_sem,seval,reduceCtorEq,p1,hl]
  (repeat (refine And.intro (by omega) ?_))
  (refine an [0] [] false (zd rfl) ?_ _ ?_ (hd2) ?_ ?_;(focus (simp only[go_sem,seval,reduceCtorEq];done));(focus (simp only[go_sem,seval,reduceCtorEq];done));(focus (first | rfl | (simp only[go_sem,seval,reduceCtorEq];done))))
  have hl2:(L.set k y).length=wd:=by rw[List.length_set];exact hl
  have p2:=cD (xs:=L.set k y) (x:=top ⟨kk,pp,nn⟩) (n:=k) (by omega)
  have ss:(L.set k y).set k (top ⟨kk,pp,nn⟩)=L.set k (top ⟨kk,pp,nn⟩):=by simp
  cases o with
  | true=>
   have e2:(gEl b (top ⟨kk,pp,nn⟩) wd c0 (k+1)).2=L.set k (top ⟨kk,pp,nn⟩):=by rw[hs];rfl
   simp(disch:=omega) only[go_sem,seval,reduceCtorEq]
   (refine zC (mR kk pp nn hr) ?_)
   simp(disch:=omega) only[go_sem,seval,reduceCtorEq,p2,ss,hl2]
   (repeat (refine And.intro (by omega) ?_))
   (refine Next.drop (mkB 43 4398038122560) (by omega) (h1:= ?_) (h2:= ?_)<;>first | (simp only[go_sem,seval,reduceCtorEq,nz,na,n1,e1,e2,curC];first | done | rfl) | rfl | skip)
  | false=>
   have e2:(gEl b (top ⟨kk,pp,nn⟩) wd c0 (k+1)).2=L.set k y:=by rw[hs];rfl
   simp(disch:=omega) only[go_sem,seval,reduceCtorEq]
   (refine Next.drop (mkB 43 4398038122560) (by omega) (h1:= ?_) (h2:= ?_)<;>first | (simp only[go_sem,seval,reduceCtorEq,nz,na,n1,e1,e2,curC];first | done | rfl) | rfl | skip)
 ·have q1:¬ (k:Int)<wd:=by omega
  have hk:k=wd:=by omega
  subst hk
  simp(disch:=omega) only[go_sem,seval,reduceCtorEq,q1,curC]
  (refine zE ?_ ?_<;>try simp only[go_sem,seval,reduceCtorEq])
end Go.Proofs.YtjfmckhbmdjnpaaGreat
