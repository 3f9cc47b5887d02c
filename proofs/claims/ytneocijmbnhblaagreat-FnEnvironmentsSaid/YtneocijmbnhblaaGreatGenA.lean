/-
 Contracts: the drawing of test data: the cursor over a code, numbers drawn. No condition.
-/
import Derived.Test.YtneocijmbnhblaaGreatMgEnvironmentsA
import Derived.Test.YtneocijmbnhblaaGreatStkA
import Derived.Test.YtneocijmbnhblaaGreatArrA
set_option linter.unusedSimpArgs false
set_option linter.unusedVariables false
namespace Go.Proofs.YtneocijmbnhblaaGreat
open Go.RowKit Go.Lift Plain
set_option maxRecDepth 100000
def dby (b:List Int):List D:=b.map .byte
def bytes (b:List Int):D:=.sl b.length (dby b)
structure CodeOk (b:List Int):Prop where
 len:b.length≤1048576
 wf:∀ x∈b,0≤x∧x≤255
def curC (b:List Int) (i:Nat) (h:Int):List AV:=[.d (bytes b),.d (.int i),.d (.int h)]
def curR (b:List Int) (i:Nat) (h:Int):Option Root:=some ⟨0,false,curC b i h⟩
theorem CR (b:List Int) (i:Nat):(dby b)[i]? =b[i]?.map .byte:=by simp [dby]
attribute [go_sem] CR
def a255 (x:Int):Int:=IntKind.i64.wrap ((BitVec.ofInt 64 x&&& 255#64).toNat:Int)
theorem kO (x:Int):0≤a255 x∧a255 x≤255:=by
 have h:(BitVec.ofInt 64 x&&& 255#64).toNat≤255:=by
  rw[BitVec.toNat_and]
  exact Nat.and_le_right
 unfold a255
 rw[IntWalk.i64_in _ (by omega)]
 omega
def gH (h:Int):Int:=IntKind.i64.wrap (IntKind.i64.wrap (h*6364136223846793005)+1442695040888963407)
def gX (h:Int):Int:=a255 (IntKind.i64.wrap ((BitVec.ofInt 64 (h.fdiv (2 ^ (min 33 64))) ^^^ BitVec.ofInt 64 (h.fdiv (2 ^ (min 45 64)))).toNat:Int))
theorem nC {b:List Int} (hb:CodeOk b) (i:Nat) (hi:i≤b.length) (h:Int):∃ (x:Int) (j:Nat) (h':Int),(0≤x∧x≤255∧j≤b.length)∧Does Tryz.prog 53 [.ptr 0 0] [curR b i h] (.d (.int x)) [curR b j h']:=by
 have hl:=hb.len
 have g1:IntKind.i64.wrap (IntKind.i64.wrap (h*6364136223846793005)+1442695040888963407)=gH h:=rfl
 have g2:IntKind.i64.wrap ((BitVec.ofInt 64 (IntKind.i64.wrap ((BitVec.ofInt 64 ((gH h).fdiv (2 ^ (min 33 64))) ^^^ BitVec.ofInt 64 ((gH h).fdiv (2 ^ (min 45 64)))).toNat:Int))&&& 255#64).toNat:Int)=gX (gH h):=rfl
 have g3:=kO (IntKind.i64.wrap ((BitVec.ofInt 64 ((gH h).fdiv (2 ^ (min 33 64))) ^^^ BitVec.ofInt 64 ((gH h).fdiv (2 ^ (min 45 64)))).toNat:Int))
 change 0≤gX (gH h)∧gX (gH h)≤255 at g3
 by_cases hlt:i<b.length
 ·have d1:(i:Int)<b.length:=by omega
  have g:b[i]? =some b[i]:=List.getElem?_eq_getElem hlt
  have hw:=hb.wf b[i] (List.getElem_mem _)
  have g4:IntKind.i64.wrap ((BitVec.ofInt 64 (gX (gH h)+b[i])&&& 255#64).toNat:Int)=a255 (gX (gH h)+b[i]):=rfl
  have g5:(i:Int)+1=((i+1:Nat):Int):=by omega
  refine⟨a255 (gX (gH h)+b[i]),i+1,gH h,⟨(kO _).1,(kO _).2,hlt⟩, ?_⟩
  (refine spec_of (by kernel_rfl) Tryz.func53 eL (fnOk (nb rfl) ?_);unfold C_spec_l01Byte)
  unfold curR curC bytes
  (simp only[Nat.reduceSub,List.length_cons,List.length_nil,Nat.reduceAdd,am,al,aj,ai,ah,af,ae,ac];try simp only[au]);(simp only[go_sem,seval,reduceCtorEq,List.replicate])
  simp(disch:=omega) only[go_sem,seval,reduceCtorEq,g1,g2,d1,g,g4,g5,Option.map_some]
  (refine FnEnd.mk (nb rfl) rfl (of_decide_eq_true rfl) ?_ ?_<;>try simp only[go_sem,seval,reduceCtorEq])
 ·have d1:¬ (i:Int)<b.length:=by omega
  refine⟨gX (gH h),i,gH h,⟨g3.1,g3.2,hi⟩, ?_⟩
  (refine spec_of (by kernel_rfl) Tryz.func53 eL (fnOk (nb rfl) ?_);unfold C_spec_l01Byte)
  unfold curR curC bytes
  (simp only[Nat.reduceSub,List.length_cons,List.length_nil,Nat.reduceAdd,am,al,aj,ai,ah,af,ae,ac];try simp only[au]);(simp only[go_sem,seval,reduceCtorEq,List.replicate])
  simp(disch:=omega) only[go_sem,seval,reduceCtorEq,g1,g2,d1]
  (refine FnEnd.mk (nb rfl) rfl (of_decide_eq_true rfl) ?_ ?_<;>try simp only[go_sem,seval,reduceCtorEq])
def Draws (f:FuncId) (b:List Int) (i:Nat) (h:Int) (args:List AV) (P:Int→Prop):Prop:=
 ∃ (x:Int) (j:Nat) (h':Int),(P x∧j≤b.length)∧Does Tryz.prog f (.ptr 0 0 :: args) [curR b i h] (.d (.int x)) [curR b j h']
theorem lc {b:List Int} (hb:CodeOk b) (i:Nat) (hi:i≤b.length) (h:Int) {n:Int} (hn:1≤n∧n≤1048576):Draws 61 b i h [.d (.int n)] fun x=>0≤x∧x<n:=by
 obtain⟨x,j,h',⟨x0,x1,hj⟩,hd⟩:=nC hb i hi h
 have e:=Int.tmod_eq_emod_of_nonneg x0 (b:=n)
 have m0:=Int.emod_nonneg x (b:=n) (by omega)
 have m1:=Int.emod_lt_of_pos x (b:=n) (by omega)
 refine⟨x % n,j,h',⟨⟨m0,m1⟩,hj⟩, ?_⟩
 have d0:¬ n≤0:=by omega
 have d1:n≠0:=by omega
 (refine spec_of (by kernel_rfl) Tryz.func61 jq (fnOk (nb rfl) ?_);unfold C_spec_l01Below)
 unfold curR curC
 (simp only[Nat.reduceSub,List.length_cons,List.length_nil,Nat.reduceAdd,am,al,aj,ai,ah,af,ae,ac];try simp only[au]);(simp only[go_sem,seval,reduceCtorEq,List.replicate])
 simp only[go_sem,seval,reduceCtorEq,d0]
 unfold curR curC at hd
 (refine aB [0] [] false (of_decide_eq_true rfl) ?_ _ ?_ (hd) ?_ ?_;(focus (simp only[go_sem,seval,reduceCtorEq];done));(focus (simp only[go_sem,seval,reduceCtorEq];done));(focus (first | rfl | (simp only[go_sem,seval,reduceCtorEq];done))))
 simp only[go_sem,seval,reduceCtorEq,e,d1]
 (repeat (refine And.intro (by omega) ?_))
 (refine FnEnd.mk (nb rfl) rfl (of_decide_eq_true rfl) ?_ ?_<;>try simp only[go_sem,seval,reduceCtorEq])
theorem ew {b:List Int} (hb:CodeOk b) (i:Nat) (hi:i≤b.length) (h:Int) {xs:List Int} (hn:1≤xs.length∧xs.length≤1048576):∃ (x:Int) (j:Nat) (h':Int),(x∈xs∧j≤b.length)∧Does Tryz.prog 62 [.ptr 0 0,.own 1 0 xs.length] [curR b i h,some ⟨1,false,iv xs⟩] (.d (.int x)) [curR b j h',some ⟨1,false,iv xs⟩]:=by
 obtain⟨x,j,h',⟨⟨x0,x1⟩,hj⟩,hd⟩:=lc hb i hi h (n:=xs.length) (by omega)
 have hx:x=((x.toNat:Nat):Int):=by omega
 have hlt:x.toNat<xs.length:=by omega
 have g:xs[x.toNat]? =some xs[x.toNat]:=List.getElem?_eq_getElem hlt
 refine⟨xs[x.toNat],j,h',⟨List.getElem_mem _,hj⟩, ?_⟩
 (refine spec_of (by kernel_rfl) Tryz.func62 qp (fnOk (nb rfl) ?_);unfold C_spec_l01Pick)
 unfold curR curC
 (simp only[Nat.reduceSub,List.length_cons,List.length_nil,Nat.reduceAdd,am,al,aj,ai,ah,af,ae,ac];try simp only[au]);(simp only[go_sem,seval,reduceCtorEq,List.replicate])
 unfold curR curC at hd
 (refine aB [0] [] false (of_decide_eq_true rfl) ?_ _ ?_ (hd) ?_ ?_;(focus (simp only[go_sem,seval,reduceCtorEq];done));(focus (simp only[go_sem,seval,reduceCtorEq];done));(focus (first | rfl | (simp only[go_sem,seval,reduceCtorEq];done))))
 simp(disch:=omega) only[go_sem,seval,reduceCtorEq,g,Option.map_some]
 (repeat (refine And.intro (by omega) ?_))
 (refine FnEnd.mk (nb rfl) rfl (of_decide_eq_true rfl) ?_ ?_<;>try simp only[go_sem,seval,reduceCtorEq])
def Dh (h x:Int):Int:=IntKind.i64.wrap ((BitVec.ofInt 64 (IntKind.i64.wrap (IntKind.i64.wrap (IntKind.i64.wrap (h*131)+x)+7))&&& 1073741823#64).toNat:Int)
def gNew (b:List Int):Nat→Int
 | 0=>55127+(b.length:Int)
 | k+1=>Dh (gNew b k) (b.getD k 0)
theorem Aw {b:List Int} (hb:CodeOk b):Does Tryz.prog 63 [.d (bytes b)] [] (.ptr 0 0) [curR b 0 (gNew b (min b.length 4000))]:=by
 have hl:=hb.len
 (refine spec_of (by kernel_rfl) Tryz.func63 rl (fnOk (nb rfl) ?_);unfold C_spec_l01New)
 unfold bytes
 simp(disch:=omega) only[go_sem,seval,reduceCtorEq]
 have e0:gNew b 0=55127+(b.length:Int):=rfl
 refine aZ (min b.length 4000) (mkB 32 268435200) (fun k=>[(3,.d (.int (gNew b k))),(4,.d (.int k))]) (fun k=>[]) (h1:=by first | (simp only[go_sem,seval,reduceCtorEq,nz,na,n1,e0];first | done | rfl) | rfl) (h2:=by first | (simp only[go_sem,seval,reduceCtorEq,nz,na,n1,e0];first | done | rfl) | rfl) (hr:=fun k hk=> ?_)
 unfold L0_spec_l01New
 by_cases hlt:k<min b.length 4000
 ·have hk:k<b.length:=by omega
  have d1:(k:Int)<b.length:=by omega
  have d2:(k:Int)<4000:=by omega
  have g:b[k]? =some b[k]:=List.getElem?_eq_getElem hk
  have hs:gNew b (k+1)=IntKind.i64.wrap ((BitVec.ofInt 64 (IntKind.i64.wrap (IntKind.i64.wrap (IntKind.i64.wrap (gNew b k*131)+b[k])+7))&&& 1073741823#64).toNat:Int):=by
   show Dh (gNew b k) (b.getD k 0)=_
   rw[ao hk]
   rfl
  have hw:=hb.wf b[k] (List.getElem_mem _)
  have gw:IntKind.i64.wrap b[k]=b[k]:=IntWalk.i64_in _ (by omega)
  simp(disch:=omega) only[go_sem,seval,reduceCtorEq,d1,d2,g,gw,Option.map_some, ← hs]
  (repeat (refine And.intro (by omega) ?_))
  (refine Next.drop (mkB 32 268435200) (by omega) (h1:= ?_) (h2:= ?_)<;>first | (simp only[go_sem,seval,reduceCtorEq,nz,na,n1];first | done | rfl) | rfl | skip)
 ·have hk:k=min b.length 4000:=by omega
  by_cases hk2:k<b.length
  ·have d1:(k:Int)<b.length:=by omega
   have d2:¬ (k:Int)<4000:=by omega
   simp(disch:=omega) only[go_sem,seval,reduceCtorEq,d1,d2]
   rw[← hk]
   unfold curR curC bytes
   (refine FnEnd.mk (nb rfl) rfl (of_decide_eq_true rfl) ?_ ?_<;>try simp only[go_sem,seval,reduceCtorEq])
  ·have d1:¬ (k:Int)<b.length:=by omega
   simp(disch:=omega) only[go_sem,seval,reduceCtorEq,d1]
   rw[← hk]
   unfold curR curC bytes
   (refine FnEnd.mk (nb rfl) rfl (of_decide_eq_true rfl) ?_ ?_<;>try simp only[go_sem,seval,reduceCtorEq])
theorem pu {b:List Int} (hb:CodeOk b) {n:Nat} (hn:n≤1000):∃ (i:Nat) (h:Int),i≤b.length∧Does Tryz.prog 27 [.d (bytes b),.d (.int n)] [] (.ptr 0 0) [curR b i h]:=by
 have hl:=hb.len
 have hd:=Aw hb
 refine⟨min n b.length,IntKind.i64.wrap ((BitVec.ofInt 64 (IntKind.i64.wrap (IntKind.i64.wrap (IntKind.i64.wrap (gNew b (min b.length 4000)*31)+n*7919)+1))&&& 1073741823#64).toNat:Int),by omega, ?_⟩
 generalize gNew b (min b.length 4000)=h0 at hd
 (refine spec_of (by kernel_rfl) Tryz.func27 ti (fnOk (nb rfl) ?_);unfold C_spec_l45At)
 unfold curR curC bytes
 unfold curR curC bytes at hd
 (simp only[Nat.reduceSub,List.length_cons,List.length_nil,Nat.reduceAdd,am,al,aj,ai,ah,af,ae,ac];try simp only[au]);(simp only[go_sem,seval,reduceCtorEq,List.replicate])
 (refine aa (hd) ?_ ?_ ?_;(focus (simp only[go_sem,seval,reduceCtorEq];done));(first | rfl | (focus (simp only[go_sem];done))))
 have e:min (n:Int) (b.length:Int)=((min n b.length:Nat):Int):=by omega
 simp(disch:=omega) only[go_sem,seval,reduceCtorEq,e]
 (refine FnEnd.mk (nb rfl) rfl (of_decide_eq_true rfl) ?_ ?_<;>try simp only[go_sem,seval,reduceCtorEq])
theorem MakeNum_d {b:List Int} (hb:CodeOk b) {n:Nat} (hn:n≤1000):∃ x:Int,(0≤x∧x≤65535)∧Does Tryz.prog 18 [.d (bytes b),.d (.int n)] [] (.d (.int x)) []:=by
 obtain⟨i,h,hi,hd⟩:=pu hb hn
 obtain⟨x,j,h',⟨x0,x1,hj⟩,hx⟩:=nC hb i hi h
 obtain⟨y,j2,h2,⟨y0,y1,hj2⟩,hy⟩:=nC hb j hj h'
 refine⟨256*x+y,⟨by omega,by omega⟩, ?_⟩
 (refine spec_of (by kernel_rfl) Tryz.func18 qr (fnOk (nb rfl) ?_);unfold C_spec_MakeNum)
 unfold curR curC at hd hx hy
 (simp only[Nat.reduceSub,List.length_cons,List.length_nil,Nat.reduceAdd,am,al,aj,ai,ah,af,ae,ac];try simp only[au]);(simp only[go_sem,seval,reduceCtorEq,List.replicate])
 (refine aa (hd) ?_ ?_ ?_;(focus (simp only[go_sem,seval,reduceCtorEq];done));(first | rfl | (focus (simp only[go_sem];done))))
 simp only[go_sem,seval,reduceCtorEq]
 (refine aB [0] [] false (of_decide_eq_true rfl) ?_ _ ?_ (hx) ?_ ?_;(focus (simp only[go_sem,seval,reduceCtorEq];done));(focus (simp only[go_sem,seval,reduceCtorEq];done));(focus (first | rfl | (simp only[go_sem,seval,reduceCtorEq];done))))
 simp(disch:=omega) only[go_sem,seval,reduceCtorEq]
 (refine aB [0] [] false (of_decide_eq_true rfl) ?_ _ ?_ (hy) ?_ ?_;(focus (simp only[go_sem,seval,reduceCtorEq];done));(focus (simp only[go_sem,seval,reduceCtorEq];done));(focus (first | rfl | (simp only[go_sem,seval,reduceCtorEq];done))))
 simp(disch:=omega) only[go_sem,seval,reduceCtorEq]
 (refine FnEnd.mk (nb rfl) rfl (of_decide_eq_true rfl) ?_ ?_<;>try simp only[go_sem,seval,reduceCtorEq])
theorem MakeSize_d {b:List Int} (hb:CodeOk b) {n:Nat} (hn:n≤1000) {lo hi:Int} (h:0≤lo∧lo≤hi∧hi≤1000000):∃ x:Int,(lo≤x∧x≤hi)∧Does Tryz.prog 8 [.d (bytes b),.d (.int n),.d (.int lo),.d (.int hi)] [] (.d (.int x)) []:=by
 obtain⟨x,⟨x0,x1⟩,hx⟩:=MakeNum_d hb hn
 have e:=Int.tmod_eq_emod_of_nonneg x0 (b:=hi-lo+1)
 have m0:=Int.emod_nonneg x (b:=hi-lo+1) (by omega)
 have m1:=Int.emod_lt_of_pos x (b:=hi-lo+1) (by omega)
 refine⟨lo+x % (hi-lo+1),⟨by omega,by omega⟩, ?_⟩
 have d1:hi-lo+1≠0:=by omega
 (refine spec_of (by kernel_rfl) Tryz.func8 oU (fnOk (nb rfl) ?_);unfold C_spec_MakeSize)
 unfold bytes
 unfold bytes at hx
 (simp only[Nat.reduceSub,List.length_cons,List.length_nil,Nat.reduceAdd,am,al,aj,ai,ah,af,ae,ac];try simp only[au]);(simp only[go_sem,seval,reduceCtorEq,List.replicate])
 (refine aa (hx) ?_ ?_ ?_;(focus (simp only[go_sem,seval,reduceCtorEq];done));(first | rfl | (focus (simp only[go_sem];done))))
 simp(disch:=omega) only[go_sem,seval,reduceCtorEq,e]
 (repeat (refine And.intro (by omega) ?_))
 (refine FnEnd.mk (nb rfl) rfl (of_decide_eq_true rfl) ?_ ?_<;>try simp only[go_sem,seval,reduceCtorEq])
theorem yt {b:List Int} (hb:CodeOk b) (i:Nat) (hi:i≤b.length) (h:Int):∃ (k p n:Int) (j:Nat) (h':Int),(aq ⟨k,p,n⟩=true∧j≤b.length)∧Does Tryz.prog 26 [.ptr 0 0] [curR b i h] (bn k p n) [curR b j h']:=by
 obtain⟨x,j,h1,⟨⟨x0,x1⟩,hj⟩,hx⟩:=lc hb i hi h (n:=8) (by omega)
 unfold curR curC at hx
 have hc:x=0∨x=1∨x=2∨x=3∨x=4∨x=5∨x=6∨x=7:=by omega
 rcases hc with rfl | rfl | rfl | rfl | rfl | rfl | rfl | rfl
 ·refine⟨1,0,0,j,h1,⟨by kernel_rfl,hj⟩, ?_⟩
  (refine spec_of (by kernel_rfl) Tryz.func26 ci (fnOk (nb rfl) ?_);unfold C_spec_l02Ring)
  unfold curR curC
  (simp only[Nat.reduceSub,List.length_cons,List.length_nil,Nat.reduceAdd,am,al,aj,ai,ah,af,ae,ac];try simp only[au]);(simp only[go_sem,seval,reduceCtorEq,List.replicate])
  (refine aB [0] [] false (of_decide_eq_true rfl) ?_ _ ?_ (hx) ?_ ?_;(focus (simp only[go_sem,seval,reduceCtorEq];done));(focus (simp only[go_sem,seval,reduceCtorEq];done));(focus (first | rfl | (simp only[go_sem,seval,reduceCtorEq];done))))
  simp(disch:=omega) only[go_sem,seval,reduceCtorEq]
  (refine FnEnd.mk (nb rfl) rfl (of_decide_eq_true rfl) ?_ ?_<;>try simp only[go_sem,seval,reduceCtorEq])
 ·obtain⟨y,j2,h2,⟨hy1,hj2⟩,hy⟩:=ew hb j hj h1 (xs:=[2,3,7,97,1000003]) (by decide)
  unfold curR curC at hy
  simp only[iv,List.map_cons,List.map_nil,List.length_cons,List.length_nil,Nat.zero_add,Nat.reduceAdd]at hy
  refine⟨2,y,0,j2,h2,⟨?_,hj2⟩, ?_⟩
  ·simp only[List.mem_cons,List.not_mem_nil,or_false]at hy1
   rcases hy1 with rfl | rfl | rfl | rfl | rfl<;>kernel_rfl
  ·(refine spec_of (by kernel_rfl) Tryz.func26 ci (fnOk (nb rfl) ?_);unfold C_spec_l02Ring)
   unfold curR curC
   (simp only[Nat.reduceSub,List.length_cons,List.length_nil,Nat.reduceAdd,am,al,aj,ai,ah,af,ae,ac];try simp only[au]);(simp only[go_sem,seval,reduceCtorEq,List.replicate])
   (refine aB [0] [] false (of_decide_eq_true rfl) ?_ _ ?_ (hx) ?_ ?_;(focus (simp only[go_sem,seval,reduceCtorEq];done));(focus (simp only[go_sem,seval,reduceCtorEq];done));(focus (first | rfl | (simp only[go_sem,seval,reduceCtorEq];done))))
   simp(disch:=omega) only[go_sem,seval,reduceCtorEq]
   (refine aB [0,2] [] false (of_decide_eq_true rfl) ?_ _ ?_ (hy) ?_ ?_;(focus (simp only[go_sem,seval,reduceCtorEq];done));(focus (simp only[go_sem,seval,reduceCtorEq];done));(focus (first | rfl | (simp only[go_sem,seval,reduceCtorEq];done))))
   simp(disch:=omega) only[go_sem,seval,reduceCtorEq]
   (refine FnEnd.mk (nb rfl) rfl (of_decide_eq_true rfl) ?_ ?_<;>try simp only[go_sem,seval,reduceCtorEq])
 ·obtain⟨y,j2,h2,⟨hy1,hj2⟩,hy⟩:=ew hb j hj h1 (xs:=[1,2,9,40,1000000]) (by decide)
  unfold curR curC at hy
  simp only[iv,List.map_cons,List.map_nil,List.length_cons,List.length_nil,Nat.zero_add,Nat.reduceAdd]at hy
  refine⟨3,y,0,j2,h2,⟨?_,hj2⟩, ?_⟩
  ·simp only[List.mem_cons,List.not_mem_nil,or_false]at hy1
   rcases hy1 with rfl | rfl | rfl | rfl | rfl<;>kernel_rfl
  ·(refine spec_of (by kernel_rfl) Tryz.func26 ci (fnOk (nb rfl) ?_);unfold C_spec_l02Ring)
   unfold curR curC
   (simp only[Nat.reduceSub,List.length_cons,List.length_nil,Nat.reduceAdd,am,al,aj,ai,ah,af,ae,ac];try simp only[au]);(simp only[go_sem,seval,reduceCtorEq,List.replicate])
   (refine aB [0] [] false (of_decide_eq_true rfl) ?_ _ ?_ (hx) ?_ ?_;(focus (simp only[go_sem,seval,reduceCtorEq];done));(focus (simp only[go_sem,seval,reduceCtorEq];done));(focus (first | rfl | (simp only[go_sem,seval,reduceCtorEq];done))))
   simp(disch:=omega) only[go_sem,seval,reduceCtorEq]
   (refine aB [0,2] [] false (of_decide_eq_true rfl) ?_ _ ?_ (hy) ?_ ?_;(focus (simp only[go_sem,seval,reduceCtorEq];done));(focus (simp only[go_sem,seval,reduceCtorEq];done));(focus (first | rfl | (simp only[go_sem,seval,reduceCtorEq];done))))
   simp(disch:=omega) only[go_sem,seval,reduceCtorEq]
   (refine FnEnd.mk (nb rfl) rfl (of_decide_eq_true rfl) ?_ ?_<;>try simp only[go_sem,seval,reduceCtorEq])
 ·obtain⟨y,j2,h2,⟨hy1,hj2⟩,hy⟩:=ew hb j hj h1 (xs:=[1,2,9,40,1000000]) (by decide)
  unfold curR curC at hy
  simp only[iv,List.map_cons,List.map_nil,List.length_cons,List.length_nil,Nat.zero_add,Nat.reduceAdd]at hy
  refine⟨4,y,0,j2,h2,⟨?_,hj2⟩, ?_⟩
  ·simp only[List.mem_cons,List.not_mem_nil,or_false]at hy1
   rcases hy1 with rfl | rfl | rfl | rfl | rfl<;>kernel_rfl
  ·(refine spec_of (by kernel_rfl) Tryz.func26 ci (fnOk (nb rfl) ?_);unfold C_spec_l02Ring)
   unfold curR curC
   (simp only[Nat.reduceSub,List.length_cons,List.length_nil,Nat.reduceAdd,am,al,aj,ai,ah,af,ae,ac];try simp only[au]);(simp only[go_sem,seval,reduceCtorEq,List.replicate])
   (refine aB [0] [] false (of_decide_eq_true rfl) ?_ _ ?_ (hx) ?_ ?_;(focus (simp only[go_sem,seval,reduceCtorEq];done));(focus (simp only[go_sem,seval,reduceCtorEq];done));(focus (first | rfl | (simp only[go_sem,seval,reduceCtorEq];done))))
   simp(disch:=omega) only[go_sem,seval,reduceCtorEq]
   (refine aB [0,2] [] false (of_decide_eq_true rfl) ?_ _ ?_ (hy) ?_ ?_;(focus (simp only[go_sem,seval,reduceCtorEq];done));(focus (simp only[go_sem,seval,reduceCtorEq];done));(focus (first | rfl | (simp only[go_sem,seval,reduceCtorEq];done))))
   simp(disch:=omega) only[go_sem,seval,reduceCtorEq]
   (refine FnEnd.mk (nb rfl) rfl (of_decide_eq_true rfl) ?_ ?_<;>try simp only[go_sem,seval,reduceCtorEq])
 ·obtain⟨y,j2,h2,⟨hy1,hj2⟩,hy⟩:=ew hb j hj h1 (xs:=[1,2,9,40,1000000]) (by decide)
  unfold curR curC at hy
  simp only[iv,List.map_cons,List.map_nil,List.length_cons,List.length_nil,Nat.zero_add,Nat.reduceAdd]at hy
  refine⟨5,y,0,j2,h2,⟨?_,hj2⟩, ?_⟩
  ·simp only[List.mem_cons,List.not_mem_nil,or_false]at hy1
   rcases hy1 with rfl | rfl | rfl | rfl | rfl<;>kernel_rfl
  ·(refine spec_of (by kernel_rfl) Tryz.func26 ci (fnOk (nb rfl) ?_);unfold C_spec_l02Ring)
   unfold curR curC
   (simp only[Nat.reduceSub,List.length_cons,List.length_nil,Nat.reduceAdd,am,al,aj,ai,ah,af,ae,ac];try simp only[au]);(simp only[go_sem,seval,reduceCtorEq,List.replicate])
   (refine aB [0] [] false (of_decide_eq_true rfl) ?_ _ ?_ (hx) ?_ ?_;(focus (simp only[go_sem,seval,reduceCtorEq];done));(focus (simp only[go_sem,seval,reduceCtorEq];done));(focus (first | rfl | (simp only[go_sem,seval,reduceCtorEq];done))))
   simp(disch:=omega) only[go_sem,seval,reduceCtorEq]
   (refine aB [0,2] [] false (of_decide_eq_true rfl) ?_ _ ?_ (hy) ?_ ?_;(focus (simp only[go_sem,seval,reduceCtorEq];done));(focus (simp only[go_sem,seval,reduceCtorEq];done));(focus (first | rfl | (simp only[go_sem,seval,reduceCtorEq];done))))
   simp(disch:=omega) only[go_sem,seval,reduceCtorEq]
   (refine FnEnd.mk (nb rfl) rfl (of_decide_eq_true rfl) ?_ ?_<;>try simp only[go_sem,seval,reduceCtorEq])
 ·obtain⟨y,j2,h2,⟨hy1,hj2⟩,hy⟩:=ew hb j hj h1 (xs:=[1,3,5,20]) (by decide)
  unfold curR curC at hy
  simp only[iv,List.map_cons,List.map_nil,List.length_cons,List.length_nil,Nat.zero_add,Nat.reduceAdd]at hy
  refine⟨6,0,y,j2,h2,⟨?_,hj2⟩, ?_⟩
  ·simp only[List.mem_cons,List.not_mem_nil,or_false]at hy1
   rcases hy1 with rfl | rfl | rfl | rfl<;>kernel_rfl
  ·(refine spec_of (by kernel_rfl) Tryz.func26 ci (fnOk (nb rfl) ?_);unfold C_spec_l02Ring)
   unfold curR curC
   (simp only[Nat.reduceSub,List.length_cons,List.length_nil,Nat.reduceAdd,am,al,aj,ai,ah,af,ae,ac];try simp only[au]);(simp only[go_sem,seval,reduceCtorEq,List.replicate])
   (refine aB [0] [] false (of_decide_eq_true rfl) ?_ _ ?_ (hx) ?_ ?_;(focus (simp only[go_sem,seval,reduceCtorEq];done));(focus (simp only[go_sem,seval,reduceCtorEq];done));(focus (first | rfl | (simp only[go_sem,seval,reduceCtorEq];done))))
   simp(disch:=omega) only[go_sem,seval,reduceCtorEq]
   (refine aB [0,2] [] false (of_decide_eq_true rfl) ?_ _ ?_ (hy) ?_ ?_;(focus (simp only[go_sem,seval,reduceCtorEq];done));(focus (simp only[go_sem,seval,reduceCtorEq];done));(focus (first | rfl | (simp only[go_sem,seval,reduceCtorEq];done))))
   simp(disch:=omega) only[go_sem,seval,reduceCtorEq]
   (refine FnEnd.mk (nb rfl) rfl (of_decide_eq_true rfl) ?_ ?_<;>try simp only[go_sem,seval,reduceCtorEq])
 ·obtain⟨y,j2,h2,⟨hy1,hj2⟩,hy⟩:=ew hb j hj h1 (xs:=[2,5,101]) (by decide)
  obtain⟨z,j3,h3,⟨⟨z0,z1⟩,hj3⟩,hz⟩:=lc hb j2 hj2 h2 (n:=4) (by omega)
  unfold curR curC at hy hz
  simp only[iv,List.map_cons,List.map_nil,List.length_cons,List.length_nil,Nat.zero_add,Nat.reduceAdd]at hy
  refine⟨7,y,1+z,j3,h3,⟨?_,hj3⟩, ?_⟩
  ·have key:∀ y∈[2,5,101],∀ z∈[0,1,2,3],aq ⟨7,y,1+z⟩=true:=by decide+kernel
   exact key y hy1 z (by simp only[List.mem_cons,List.not_mem_nil,or_false];omega)
  ·(refine spec_of (by kernel_rfl) Tryz.func26 ci (fnOk (nb rfl) ?_);unfold C_spec_l02Ring)
   unfold curR curC
   (simp only[Nat.reduceSub,List.length_cons,List.length_nil,Nat.reduceAdd,am,al,aj,ai,ah,af,ae,ac];try simp only[au]);(simp only[go_sem,seval,reduceCtorEq,List.replicate])
   (refine aB [0] [] false (of_decide_eq_true rfl) ?_ _ ?_ (hx) ?_ ?_;(focus (simp only[go_sem,seval,reduceCtorEq];done));(focus (simp only[go_sem,seval,reduceCtorEq];done));(focus (first | rfl | (simp only[go_sem,seval,reduceCtorEq];done))))
   simp(disch:=omega) only[go_sem,seval,reduceCtorEq]
   (refine aB [0,2] [] false (of_decide_eq_true rfl) ?_ _ ?_ (hy) ?_ ?_;(focus (simp only[go_sem,seval,reduceCtorEq];done));(focus (simp only[go_sem,seval,reduceCtorEq];done));(focus (first | rfl | (simp only[go_sem,seval,reduceCtorEq];done))))
   simp(disch:=omega) only[go_sem,seval,reduceCtorEq]
   (refine aB [0] [] false (of_decide_eq_true rfl) ?_ _ ?_ (hz) ?_ ?_;(focus (simp only[go_sem,seval,reduceCtorEq];done));(focus (simp only[go_sem,seval,reduceCtorEq];done));(focus (first | rfl | (simp only[go_sem,seval,reduceCtorEq];done))))
   simp(disch:=omega) only[go_sem,seval,reduceCtorEq]
   (refine FnEnd.mk (nb rfl) rfl (of_decide_eq_true rfl) ?_ ?_<;>try simp only[go_sem,seval,reduceCtorEq])
 ·obtain⟨y,j2,h2,⟨hy1,hj2⟩,hy⟩:=ew hb j hj h1 (xs:=[3,17,97,1000003]) (by decide)
  unfold curR curC at hy
  simp only[iv,List.map_cons,List.map_nil,List.length_cons,List.length_nil,Nat.zero_add,Nat.reduceAdd]at hy
  refine⟨8,y,0,j2,h2,⟨?_,hj2⟩, ?_⟩
  ·simp only[List.mem_cons,List.not_mem_nil,or_false]at hy1
   rcases hy1 with rfl | rfl | rfl | rfl<;>kernel_rfl
  ·(refine spec_of (by kernel_rfl) Tryz.func26 ci (fnOk (nb rfl) ?_);unfold C_spec_l02Ring)
   unfold curR curC
   (simp only[Nat.reduceSub,List.length_cons,List.length_nil,Nat.reduceAdd,am,al,aj,ai,ah,af,ae,ac];try simp only[au]);(simp only[go_sem,seval,reduceCtorEq,List.replicate])
   (refine aB [0] [] false (of_decide_eq_true rfl) ?_ _ ?_ (hx) ?_ ?_;(focus (simp only[go_sem,seval,reduceCtorEq];done));(focus (simp only[go_sem,seval,reduceCtorEq];done));(focus (first | rfl | (simp only[go_sem,seval,reduceCtorEq];done))))
   simp(disch:=omega) only[go_sem,seval,reduceCtorEq]
   (refine aB [0,2] [] false (of_decide_eq_true rfl) ?_ _ ?_ (hy) ?_ ?_;(focus (simp only[go_sem,seval,reduceCtorEq];done));(focus (simp only[go_sem,seval,reduceCtorEq];done));(focus (first | rfl | (simp only[go_sem,seval,reduceCtorEq];done))))
   simp(disch:=omega) only[go_sem,seval,reduceCtorEq]
   (refine FnEnd.mk (nb rfl) rfl (of_decide_eq_true rfl) ?_ ?_<;>try simp only[go_sem,seval,reduceCtorEq])
theorem MakeRing_d {b:List Int} (hb:CodeOk b) {m:Nat} (hm:m≤1000):∃ k p n:Int,aq ⟨k,p,n⟩=true∧Does Tryz.prog 5 [.d (bytes b),.d (.int m)] [] (bn k p n) []:=by
 obtain⟨i,h,hi,hd⟩:=pu hb hm
 obtain⟨k,p,n,j,h',⟨hr,hj⟩,hx⟩:=yt hb i hi h
 refine⟨k,p,n,hr, ?_⟩
 (refine spec_of (by kernel_rfl) Tryz.func5 oV (fnOk (nb rfl) ?_);unfold C_spec_MakeRing)
 unfold curR curC at hd hx
 (simp only[Nat.reduceSub,List.length_cons,List.length_nil,Nat.reduceAdd,am,al,aj,ai,ah,af,ae,ac];try simp only[au]);(simp only[go_sem,seval,reduceCtorEq,List.replicate])
 (refine aa (hd) ?_ ?_ ?_;(focus (simp only[go_sem,seval,reduceCtorEq];done));(first | rfl | (focus (simp only[go_sem];done))))
 simp only[go_sem,seval,reduceCtorEq]
 (refine aB [1] [] false (of_decide_eq_true rfl) ?_ _ ?_ (hx) ?_ ?_;(focus (simp only[go_sem,seval,reduceCtorEq];done));(focus (simp only[go_sem,seval,reduceCtorEq];done));(focus (first | rfl | (simp only[go_sem,seval,reduceCtorEq];done))))
 simp(disch:=omega) only[go_sem,seval,reduceCtorEq]
 (refine FnEnd.mk (nb rfl) rfl (of_decide_eq_true rfl) ?_ ?_<;>try simp only[go_sem,seval,reduceCtorEq])
end Go.Proofs.YtneocijmbnhblaaGreat
namespace Go.Proofs.YtneocijmbnhblaaGreat
open Go.RowKit Go.Lift Go.ChangeShapes Go.WideShapes Plain
set_option maxRecDepth 100000
theorem yC {d:D} (h:HasD d .byte):∃ n,d=.byte n∧0≤n∧n≤255:=by
 cases d<;>simp only[HasD]at h
 exact⟨_,rfl,h⟩
theorem oE:∀ {l:List D} {j:Nat},HasDL l j [.byte]→∃ xs:List Int,l=dby xs∧∀ x∈xs,0≤x∧x≤255
 | [],_,_=>⟨[],rfl,by simp⟩
 | x :: l,j,h=>by
  simp only[HasDL,List.length_cons,List.length_nil,Nat.zero_add,Nat.mod_one,List.getD_cons_zero]at h
  obtain⟨n,rfl,hn⟩:=yC h.1
  obtain⟨xs,rfl,hx⟩:=oE h.2
  exact⟨n :: xs,rfl,by simpa using⟨hn,hx⟩⟩
theorem wq {d:D} (h:HasD d (.sl [.byte])):∃ xs:List Int,d=bytes xs∧xs.length≤9223372036854775807∧∀ x∈xs,0≤x∧x≤255:=by
 cases d<;>simp only[HasD]at h
 obtain⟨h1,h2,h3⟩:=h
 obtain⟨xs,rfl,hx⟩:=oE h3
 simp only[dby,List.length_map,List.length_cons,List.length_nil,Nat.zero_add,Nat.mul_one]at h2
 subst h2
 exact⟨xs,rfl,h1,hx⟩
structure BytIn (w:World) (v:Value) (b:List Int):Prop where
 rel:Rel w (topL w) id (at_ []) (.d (bytes b)) v
 len:b.length≤9223372036854775807
 wf:∀ x∈b,0≤x∧x≤255
section
variable {H : Type} {enc : TypeId × Value → H} {w : World} {base : Nat} {held : Bool} {r : Reach}
theorem w4 {b0:Nat} {v:Value} {d:DataW H} {p:List MemPlace} (hv:Value.okWide Tryz.prog w r b0 22 v) (h:DataW.Trod enc Tryz.prog w base (fun _=>true) held 22 v d p):
  ∃ b,BytIn w v b:=by
 obtain⟨A,n,c,rfl⟩:=okWide_slice Tryz.underlying22 hv
 obtain⟨fuel,hf⟩:=h
 obtain⟨ds,hR⟩:=pR 5 22 [.sl [.byte]] (by kernel_rfl) fuel [.slice A n c] _ hf (by kernel_rfl)
 obtain⟨h1,h2,h3⟩:=hR
 match ds,h1 with
 | [d0],_=>
  obtain⟨d',e1,e2,e3⟩:=h3 0 _ (.sl [.byte]) rfl rfl
  simp only[List.getElem?_cons_zero,Option.some.injEq]at e1
  subst e1
  obtain⟨b,rfl,hl,hs⟩:=wq e3
  exact⟨b,by rw[Rel];exact e2,hl,hs⟩
end
end Go.Proofs.YtneocijmbnhblaaGreat
namespace Go.Proofs.YtneocijmbnhblaaGreat
open Go.RowKit Go.Lift Plain
set_option maxRecDepth 100000
structure Cur where
 i:Nat
 h:Int
def curS (b:List Int) (c:Cur):Option Root:=curR b c.i c.h
def iD (b:List Int) (c:Cur):Int × Cur:=if c.i<b.length then (a255 (gX (gH c.h)+b.getD c.i 0),⟨c.i+1,gH c.h⟩) else (gX (gH c.h),⟨c.i,gH c.h⟩)
def aD (b:List Int) (n:Int) (c:Cur):Int × Cur:=((iD b c).1 % n,(iD b c).2)
def gT (b:List Int) (n:Int) (c:Cur):Bool × Cur:=((aD b n c).1==0,(aD b n c).2)
theorem AS {b:List Int} (c:Cur):0≤(iD b c).1∧(iD b c).1≤255:=by
 unfold iD
 split
 ·exact kO _
 ·exact kO _
theorem vn {b:List Int} {c:Cur} (h:c.i≤b.length):(iD b c).2.i≤b.length:=by
 unfold iD
 split
 ·rename_i h;exact h
 ·exact h
theorem cF {b:List Int} {n:Int} (hn:1≤n) (c:Cur):0≤(aD b n c).1∧(aD b n c).1<n:=⟨Int.emod_nonneg _ (by omega),Int.emod_lt_of_pos _ (by omega)⟩
theorem cX {b:List Int} {n:Int} {c:Cur} (h:c.i≤b.length):(aD b n c).2.i≤b.length:=vn h
theorem vj {b:List Int} {n:Int} {c:Cur} (h:c.i≤b.length):(gT b n c).2.i≤b.length:=vn h
theorem CJ {b:List Int} (hb:CodeOk b) {c:Cur} (hi:c.i≤b.length):Does Tryz.prog 53 [.ptr 0 0] [curS b c] (.d (.int (iD b c).1)) [curS b (iD b c).2]:=by
 obtain⟨i,h⟩:=c
 simp only at hi
 have hl:=hb.len
 have g1:IntKind.i64.wrap (IntKind.i64.wrap (h*6364136223846793005)+1442695040888963407)=gH h:=rfl
 have g2:IntKind.i64.wrap ((BitVec.ofInt 64 (IntKind.i64.wrap ((BitVec.ofInt 64 ((gH h).fdiv (2 ^ (min 33 64))) ^^^ BitVec.ofInt 64 ((gH h).fdiv (2 ^ (min 45 64)))).toNat:Int))&&& 255#64).toNat:Int)=gX (gH h):=rfl
 have g3:=kO (IntKind.i64.wrap ((BitVec.ofInt 64 ((gH h).fdiv (2 ^ (min 33 64))) ^^^ BitVec.ofInt 64 ((gH h).fdiv (2 ^ (min 45 64)))).toNat:Int))
 change 0≤gX (gH h)∧gX (gH h)≤255 at g3
 by_cases hlt:i<b.length
 ·have d1:(i:Int)<b.length:=by omega
  have g:b[i]? =some b[i]:=List.getElem?_eq_getElem hlt
  have hw:=hb.wf b[i] (List.getElem_mem _)
  have g4:IntKind.i64.wrap ((BitVec.ofInt 64 (gX (gH h)+b[i])&&& 255#64).toNat:Int)=a255 (gX (gH h)+b[i]):=rfl
  have g5:(i:Int)+1=((i+1:Nat):Int):=by omega
  have e:iD b ⟨i,h⟩=(a255 (gX (gH h)+b[i]),⟨i+1,gH h⟩):=by unfold iD;rw[if_pos hlt,ao hlt]
  rw[e]
  (refine spec_of (by kernel_rfl) Tryz.func53 eL (fnOk (nb rfl) ?_);unfold C_spec_l01Byte)
  unfold curS curR curC bytes
  (simp only[Nat.reduceSub,List.length_cons,List.length_nil,Nat.reduceAdd,am,al,aj,ai,ah,af,ae,ac];try simp only[au]);(simp only[go_sem,seval,reduceCtorEq,List.replicate])
  simp(disch:=omega) only[go_sem,seval,reduceCtorEq,g1,g2,d1,g,g4,g5,Option.map_some]
  (refine FnEnd.mk (nb rfl) rfl (of_decide_eq_true rfl) ?_ ?_<;>try simp only[go_sem,seval,reduceCtorEq])
 ·have d1:¬ (i:Int)<b.length:=by omega
  have e:iD b ⟨i,h⟩=(gX (gH h),⟨i,gH h⟩):=by unfold iD;rw[if_neg hlt]
  rw[e]
  (refine spec_of (by kernel_rfl) Tryz.func53 eL (fnOk (nb rfl) ?_);unfold C_spec_l01Byte)
  unfold curS curR curC bytes
  (simp only[Nat.reduceSub,List.length_cons,List.length_nil,Nat.reduceAdd,am,al,aj,ai,ah,af,ae,ac];try simp only[au]);(simp only[go_sem,seval,reduceCtorEq,List.replicate])
  simp(disch:=omega) only[go_sem,seval,reduceCtorEq,g1,g2,d1]
  (refine FnEnd.mk (nb rfl) rfl (of_decide_eq_true rfl) ?_ ?_<;>try simp only[go_sem,seval,reduceCtorEq])
theorem fM {b:List Int} (hb:CodeOk b) {c:Cur} (hi:c.i≤b.length) {n:Int} (hn:1≤n∧n≤1048576):Does Tryz.prog 61 [.ptr 0 0,.d (.int n)] [curS b c] (.d (.int (aD b n c).1)) [curS b (aD b n c).2]:=by
 have hd:=CJ hb hi
 have hx:=AS (b:=b) c
 have e:=Int.tmod_eq_emod_of_nonneg hx.1 (b:=n)
 have d0:¬ n≤0:=by omega
 have d1:n≠0:=by omega
 (refine spec_of (by kernel_rfl) Tryz.func61 jq (fnOk (nb rfl) ?_);unfold C_spec_l01Below)
 unfold aD
 unfold curS curR curC at hd ⊢
 (simp only[Nat.reduceSub,List.length_cons,List.length_nil,Nat.reduceAdd,am,al,aj,ai,ah,af,ae,ac];try simp only[au]);(simp only[go_sem,seval,reduceCtorEq,List.replicate])
 simp only[go_sem,seval,reduceCtorEq,d0]
 (refine aB [0] [] false (of_decide_eq_true rfl) ?_ _ ?_ (hd) ?_ ?_;(focus (simp only[go_sem,seval,reduceCtorEq];done));(focus (simp only[go_sem,seval,reduceCtorEq];done));(focus (first | rfl | (simp only[go_sem,seval,reduceCtorEq];done))))
 simp only[go_sem,seval,reduceCtorEq,e,d1]
 (repeat (refine And.intro (by omega) ?_))
 (refine FnEnd.mk (nb rfl) rfl (of_decide_eq_true rfl) ?_ ?_<;>try simp only[go_sem,seval,reduceCtorEq])
theorem xr {b:List Int} (hb:CodeOk b) {c:Cur} (hi:c.i≤b.length) {n:Int} (hn:1≤n∧n≤1048576):Does Tryz.prog 66 [.ptr 0 0,.d (.int n)] [curS b c] (.d (.bool (gT b n c).1)) [curS b (gT b n c).2]:=by
 have hd:=fM hb hi hn
 (refine spec_of (by kernel_rfl) Tryz.func66 qq (fnOk (nb rfl) ?_);unfold C_spec_l01Once)
 unfold gT
 unfold curS curR curC at hd ⊢
 (simp only[Nat.reduceSub,List.length_cons,List.length_nil,Nat.reduceAdd,am,al,aj,ai,ah,af,ae,ac];try simp only[au]);(simp only[go_sem,seval,reduceCtorEq,List.replicate])
 (refine aB [0] [] false (of_decide_eq_true rfl) ?_ _ ?_ (hd) ?_ ?_;(focus (simp only[go_sem,seval,reduceCtorEq];done));(focus (simp only[go_sem,seval,reduceCtorEq];done));(focus (first | rfl | (simp only[go_sem,seval,reduceCtorEq];done))))
 simp only[go_sem,seval,reduceCtorEq]
 (refine FnEnd.mk (nb rfl) rfl (of_decide_eq_true rfl) ?_ ?_<;>try simp only[go_sem,seval,reduceCtorEq])
def swp (xs:List Int) (i k:Nat):List Int:=(xs.set i (xs.getD k 0)).set k (xs.getD i 0)
def bE (b:List Int) (c:Cur) (xs:List Int):Nat→Cur × List Int
 | 0=>(c,xs)
 | i+1=>((aD b (i+1:Nat) (bE b c xs i).1).2,swp (bE b c xs i).2 i (aD b (i+1:Nat) (bE b c xs i).1).1.toNat)
theorem BM (xs:List Int) (i k:Nat):(swp xs i k).length=xs.length:=by simp [swp]
theorem iC (b:List Int) (c:Cur) (xs:List Int):∀ i,(bE b c xs i).2.length=xs.length
 | 0=>rfl
 | i+1=>by show (swp _ _ _).length=_;rw[BM,iC b c xs i]
theorem mH {b:List Int} {c:Cur} (h:c.i≤b.length) (xs:List Int):∀ i,(bE b c xs i).1.i≤b.length
 | 0=>h
 | i+1=>cX (n:=((i+1:Nat):Int)) (mH h xs i)
theorem z7 {xs:List Int} {i k:Nat} (hi:i<xs.length) (hk:k<xs.length):(swp xs i k).Perm xs:=by
 unfold swp
 rw[ao hi,ao hk]
 exact List.set_set_perm hi hk
theorem j6 {b:List Int} (c:Cur) (xs:List Int):∀ i,i≤xs.length→(bE b c xs i).2.Perm xs
 | 0,_=>List.Perm.refl _
 | i+1,h=>by
  have hl:=iC b c xs i
  have hb:=cF (b:=b) (n:=((i+1:Nat):Int)) (by omega) (bE b c xs i).1
  exact(z7 (by omega) (by omega)).trans (j6 c xs i (by omega))
theorem tg {b:List Int} (hb:CodeOk b) {c:Cur} (hi:c.i≤b.length) {xs:List Int} (hn:xs.length≤1048576):
  Does Tryz.prog 37 [.ptr 0 0,.own 1 0 xs.length] [curS b c,some ⟨1,false,iv xs⟩] (.own 2 0 xs.length) [curS b (bE b c xs xs.length).1,some ⟨1,false,iv xs⟩,some ⟨1,true,iv (bE b c xs xs.length).2⟩]:=by
 (refine spec_of (by kernel_rfl) Tryz.func37 gS (fnOk (nb rfl) ?_);unfold C_spec_l06Shuffle)
 unfold curS curR curC
 (simp only[Nat.reduceSub,List.length_cons,List.length_nil,Nat.reduceAdd,am,al,aj,ai,ah,af,ae,ac];try simp only[au]);(simp only[go_sem,seval,reduceCtorEq,List.replicate])
 (refine aa (iw (xs:=xs) (by omega)) ?_ ?_ ?_;(focus (simp only[go_sem,seval,reduceCtorEq];done));(first | rfl | (focus (simp only[go_sem];done))))
 simp only[go_sem,seval,reduceCtorEq]
 have e0:(bE b c xs 0).1=c:=rfl
 have e1:(bE b c xs 0).2=xs:=rfl
 refine aZ (xs.length) (mkB 37 68719460800) (fun k=>[(13,.d (.int k))]) (fun k=>[(0,curC b (bE b c xs k).1.i (bE b c xs k).1.h),(2,iv (bE b c xs k).2)]) (h1:=by first | (simp only[go_sem,seval,reduceCtorEq,nz,na,n1,e0,e1,curC];first | done | rfl) | rfl) (h2:=by first | (simp only[go_sem,seval,reduceCtorEq,nz,na,n1,e0,e1,curC];first | done | rfl) | rfl) (hr:=fun k hk=> ?_)
 unfold L0_spec_l06Shuffle
 by_cases hlt:k<xs.length
 ·have d1:(k:Int)<xs.length:=by omega
  have hs:bE b c xs (k+1)=((aD b (k+1:Nat) (bE b c xs k).1).2,swp (bE b c xs k).2 k (aD b (k+1:Nat) (bE b c xs k).1).1.toNat):=rfl
  have hl:=iC b c xs k
  have hck:=mH hi xs k
  generalize bE b c xs k=S at hs hl hck
  obtain⟨c1,L⟩:=S
  simp only at hl hck hs
  have hr:=cF (b:=b) (n:=((k+1:Nat):Int)) (by omega) c1
  have hd:=fM hb hck (n:=((k+1:Nat):Int)) (by omega)
  generalize aD b ((k+1:Nat):Int) c1=T at hr hd hs
  obtain⟨r,c2⟩:=T
  simp only at hr hd hs
  obtain⟨q,rfl⟩:=Int.eq_ofNat_of_zero_le hr.1
  have hq:q<L.length:=by omega
  have hk:k<L.length:=by omega
  have g1:L[k]? =some L[k]:=List.getElem?_eq_getElem hk
  have g2:L[q]? =some L[q]:=List.getElem?_eq_getElem hq
  have d2:(k:Int)+1=((k+1:Nat):Int):=by omega
  have d3:(q:Int)<L.length:=by omega
  have hsw:swp L k q=(L.set k L[q]).set q L[k]:=by unfold swp;rw[ao hk,ao hq]
  have p1:=cI (xs:=L) (x:=L[q]) hk
  have p2:=cI (xs:=L.set k L[q]) (x:=L[k]) (n:=q) (by rw[List.length_set];exact hq)
  have e1:(bE b c xs (k+1)).1=c2:=by rw[hs]
  have e2:(bE b c xs (k+1)).2=(L.set k L[q]).set q L[k]:=by rw[hs];simp only[Int.toNat_natCast,hsw]
  unfold curS curR curC at hd
  simp(disch:=omega) only[go_sem,seval,reduceCtorEq,d1,curC,d2]
  (refine aB [0] [] false (of_decide_eq_true rfl) ?_ _ ?_ (hd) ?_ ?_;(focus (simp only[go_sem,seval,reduceCtorEq];done));(focus (simp only[go_sem,seval,reduceCtorEq];done));(focus (first | rfl | (simp only[go_sem,seval,reduceCtorEq];done))))
  simp(disch:=omega) only[go_sem,seval,reduceCtorEq,g1,g2,Option.map_some,p1,p2,List.length_set,hl]
  (repeat (refine And.intro (by omega) ?_))
  (refine Next.drop (mkB 37 68719460800) (by omega) (h1:= ?_) (h2:= ?_)<;>first | (simp only[go_sem,seval,reduceCtorEq,nz,na,n1,e1,e2,curC];first | done | rfl) | rfl | skip)
 ·have d1:¬ (k:Int)<xs.length:=by omega
  have hk:k=xs.length:=by omega
  subst hk
  simp(disch:=omega) only[go_sem,seval,reduceCtorEq,d1,curC]
  (refine FnEnd.mk (nb rfl) rfl (of_decide_eq_true rfl) ?_ ?_<;>try simp only[go_sem,seval,reduceCtorEq])
def gLab (b:List Int) (n:Int) (c:Cur):Nat→Cur × List Int
 | 0=>(c,[])
 | k+1=>((aD b n (gLab b n c k).1).2,if (aD b n (gLab b n c k).1).1∈(gLab b n c k).2 then (gLab b n c k).2 else (gLab b n c k).2++[(aD b n (gLab b n c k).1).1])
def dimL (x:Int):Int:=1+(x+1) % 3
def bK (ls:List Int):List Int:=ls.map dimL
theorem fp (ls:List Int):(bK ls).length=ls.length:=by simp [bK]
theorem tw {b:List Int} {n:Int} {c:Cur} (h:c.i≤b.length):∀ k,(gLab b n c k).1.i≤b.length
 | 0=>h
 | k+1=>cX (n:=n) (tw h k)
theorem px {b:List Int} {n:Int} (hn:1≤n) (c:Cur):∀ k,∀ x∈(gLab b n c k).2,0≤x∧x<n
 | 0,x,h=>by simp [gLab]at h
 | k+1,x,h=>by
  simp only[gLab]at h
  split at h
  ·exact px hn c k x h
  ·rcases List.mem_append.1 h with h | h
   ·exact px hn c k x h
   ·rw[List.mem_singleton.1 h]
    exact cF hn _
theorem j7 (b:List Int) (n:Int) (c:Cur):∀ k,(gLab b n c k).2.Nodup
 | 0=>by simp [gLab]
 | k+1=>by
  simp only[gLab]
  split
  ·exact j7 b n c k
  ·rename_i h
   exact List.nodup_append.2 ⟨j7 b n c k,by simp,fun x hx y hy e=>h (by rw[← List.mem_singleton.1 hy, ← e];exact hx)⟩
theorem mJ (b:List Int) (n:Int) (c:Cur):∀ k,(gLab b n c k).2.length≤k
 | 0=>by simp [gLab]
 | k+1=>by
  have:=mJ b n c k
  simp only[gLab]
  split
  ·omega
  ·simp;omega
def bZ (b:List Int) (c:Cur):Cur × List Int:=gLab b 6 (aD b 4 c).2 (aD b 4 c).1.toNat
theorem v6 {b:List Int} (hb:CodeOk b) {c:Cur} (hi:c.i≤b.length):
  Does Tryz.prog 105 [.ptr 0 0,.d (.int 6),.d (.int 3)] [curS b c] (.tup [.own 1 0 (bZ b c).2.length,.own 2 0 (bZ b c).2.length])
   [curS b (bZ b c).1,some ⟨1,true,iv (bZ b c).2⟩,some ⟨1,true,iv (bK (bZ b c).2)⟩]:=by
 have h0:=fM hb hi (n:=4) (by omega)
 have hr0:=cF (b:=b) (n:=4) (by omega) c
 have hc0:=cX (n:=4) hi
 (refine spec_of (by kernel_rfl) Tryz.func105 nG (fnOk (nb rfl) ?_);unfold C_spec_l05Labels)
 unfold bZ
 generalize aD b 4 c=T0 at h0 hr0 hc0
 obtain⟨m0,c0⟩:=T0
 simp only at h0 hr0 hc0
 obtain⟨m,rfl⟩:=Int.eq_ofNat_of_zero_le hr0.1
 simp only[Int.toNat_natCast]
 unfold curS curR curC at h0 ⊢
 (simp only[Nat.reduceSub,List.length_cons,List.length_nil,Nat.reduceAdd,am,al,aj,ai,ah,af,ae,ac];try simp only[au]);(simp only[go_sem,seval,reduceCtorEq,List.replicate])
 (refine aB [0] [] false (of_decide_eq_true rfl) ?_ _ ?_ (h0) ?_ ?_;(focus (simp only[go_sem,seval,reduceCtorEq];done));(focus (simp only[go_sem,seval,reduceCtorEq];done));(focus (first | rfl | (simp only[go_sem,seval,reduceCtorEq];done))))
 simp(disch:=omega) only[go_sem,seval,reduceCtorEq]
 have e0:gLab b 6 c0 0=(c0,[]):=rfl
 refine aZ (m) (mkB 42 1099511379968) (fun k=>[(8,.own 1 0 (gLab b 6 c0 k).2.length),(9,.own 2 0 (gLab b 6 c0 k).2.length),(10,.d (.int ((m:Int)-k)))]) (fun k=>[(0,curC b (gLab b 6 c0 k).1.i (gLab b 6 c0 k).1.h),(1,iv (gLab b 6 c0 k).2),(2,iv (bK (gLab b 6 c0 k).2))]) (h1:=by first | (simp only[go_sem,seval,reduceCtorEq,nz,na,n1,e0,curC,bL,bK];first | done | rfl) | rfl) (h2:=by first | (simp only[go_sem,seval,reduceCtorEq,nz,na,n1,e0,curC,bL,bK];first | done | rfl) | rfl) (hr:=fun k hk=> ?_)
 unfold L0_spec_l05Labels
 by_cases hlt:k<m
 ·have d1:(m:Int)-k>0:=by omega
  have hs:gLab b 6 c0 (k+1)=((aD b 6 (gLab b 6 c0 k).1).2,if (aD b 6 (gLab b 6 c0 k).1).1∈(gLab b 6 c0 k).2 then (gLab b 6 c0 k).2 else (gLab b 6 c0 k).2++[(aD b 6 (gLab b 6 c0 k).1).1]):=rfl
  have hl:=mJ b 6 c0 k
  have hck:=tw (n:=6) hc0 k
  generalize gLab b 6 c0 k=S at hs hl hck
  obtain⟨c1,L⟩:=S
  simp only at hl hck hs
  have hr:=cF (b:=b) (n:=6) (by omega) c1
  have hd:=fM hb hck (n:=6) (by omega)
  generalize aD b 6 c1=T at hr hd hs
  obtain⟨x,c2⟩:=T
  simp only at hr hd hs
  have e1:(gLab b 6 c0 (k+1)).1=c2:=by rw[hs]
  have d5:(m:Int)-k-1=(m:Int)-((k+1:Nat):Int):=by omega
  unfold curS curR curC at hd
  simp(disch:=omega) only[go_sem,seval,reduceCtorEq,d1,curC,bK]
  (refine aB [0] [] false (of_decide_eq_true rfl) ?_ _ ?_ (hd) ?_ ?_;(focus (simp only[go_sem,seval,reduceCtorEq];done));(focus (simp only[go_sem,seval,reduceCtorEq];done));(focus (first | rfl | (simp only[go_sem,seval,reduceCtorEq];done))))
  simp(disch:=omega) only[go_sem,seval,reduceCtorEq]
  (refine aa (fZ (xs:=L) (x:=x) (by omega)) ?_ ?_ ?_;(focus (simp only[go_sem,seval,reduceCtorEq];done));(first | rfl | (focus (simp only[go_sem];done))))
  simp(disch:=omega) only[go_sem,seval,reduceCtorEq]
  by_cases hm:x∈L
  ·have d2:¬ place L x<0:=fun h=>dK.1 h hm
   have e2:(gLab b 6 c0 (k+1)).2=L:=by rw[hs];exact if_pos hm
   simp(disch:=omega) only[go_sem,seval,reduceCtorEq,d2,d5]
   (refine Next.drop (mkB 42 1099511379968) (by omega) (h1:= ?_) (h2:= ?_)<;>first | (simp only[go_sem,seval,reduceCtorEq,nz,na,n1,e1,e2,curC,bK];first | done | rfl) | rfl | skip)
  ·have d2:place L x<0:=dK.2 hm
   have e2:(gLab b 6 c0 (k+1)).2=L++[x]:=by rw[hs];exact if_neg hm
   have e3:List.map dimL (L++[x])=L.map dimL++[1+(x+1) % 3]:=by simp [dimL]
   have e4:=Int.tmod_eq_emod_of_nonneg (a:=x+1) (b:=3) (by omega)
   simp(disch:=omega) only[go_sem,seval,reduceCtorEq,d2,d5,e4]
   have el:(L++[x]).length=L.length+1:=by simp
   (repeat (refine And.intro (by omega) ?_))
   (refine Next.drop (mkB 42 1099511379968) (by omega) (h1:= ?_) (h2:= ?_)<;>first | (simp only[go_sem,seval,reduceCtorEq,nz,na,n1,e1,e2,e3,el,curC,bK];first | done | rfl) | rfl | skip)
 ·have d1:¬ (m:Int)-k>0:=by omega
  have hk:k=m:=by omega
  subst hk
  simp(disch:=omega) only[go_sem,seval,reduceCtorEq,d1,curC,bK]
  (refine FnEnd.mk (nb rfl) rfl (of_decide_eq_true rfl) ?_ ?_<;>try simp only[go_sem,seval,reduceCtorEq])
end Go.Proofs.YtneocijmbnhblaaGreat
