/-
 Words for memory that all the walks of this seat share: a slice of ints that reads as a list, a slice of ints that the call owns, tensors of both kinds. No condition.
-/
import Derived.Test.YtobhmajhachnaaaGreatDoorRows
import Derived.WalkKit
import Derived.ProofKit
import Derived.WalkSpells
import Derived.WalkLawsBesides
import Derived.Lib.Hide
import Derived.Deep.AppendLies
import Derived.Deep.Draws
import Derived.BigQuiet
import Derived.Deep.QuietTactic
import Derived.Test.YtobhmajhachnaaaGreatDoorPlainA
import Derived.Lib.SmallJoins
import Derived.OpenShut
import Derived.ChangeOld
import Derived.Deep.RegionHeld3
import Derived.Deep.DeepCutAuto
namespace Go.Proofs.YtobhmajhachnaaaGreatDoor
open Go.RowKit
def IntsAt(w:World)(B:Nat)(A:Option Addr)(n:Nat)(xs:List Int):Prop:=
 xs.length=n∧(0<n→∃b off,A=some ⟨b,off,none⟩∧b<B∧∀j,j<n→w.cell? ⟨b,off+j,none⟩=some (.int .i64 (xs.getD j 0)))
section
variable {w w' : World} {B B' n : Nat} {A : Option Addr} {xs : List Int}
theorem IntsAt.len(h:IntsAt w B A n xs):xs.length=n:=h.1
theorem IntsAt.at_(h:IntsAt w B A n xs)(hn:0<n):∃b off,A=some ⟨b,off,none⟩∧b<B∧∀j,j<n→w.cell? ⟨b,off+j,none⟩=some (.int .i64 (xs.getD j 0)):=h.2 hn
theorem IntsAt.mono(h:IntsAt w B A n xs)(hB:B≤B'):IntsAt w B' A n xs:=
 ⟨h.1,fun hn=>by
  obtain⟨b,off,e,hlt,hc⟩:=h.2 hn;exact⟨b,off,e,by omega,hc⟩⟩
theorem IntsAt.take(h:IntsAt w B A n xs){k:Nat}(hk:k≤n):IntsAt w B A k (xs.take k):=
 ⟨by have:=h.1;simp;omega,fun h0=>by
  obtain⟨b,off,e,hlt,hc⟩:=h.2 (by omega);refine⟨b,off,e,hlt,fun j hj=>(hc j (by omega)).trans ?_⟩;simp [hj]⟩
theorem IntsAt.nil:IntsAt w B A 0 []:=⟨rfl,fun h=>absurd h (by omega)⟩
end
def Apart(A A':Option Addr):Prop:=∀a a',A=some a→A'=some a'→a.block≠a'.block
theorem Apart.symm{A A':Option Addr}(h:Apart A A'):Apart A' A:=fun a a' e e'=>(h a' a e' e).symm
def OwnI(w:World)(lo hi:Nat)(A:Option Addr)(n c:Nat)(xs:List Int):Prop:=
 xs.length=n∧w.ownsRow lo 3 1 (.slice A n c) n (xs.map (.int .i64))∧∀a,A=some a→a.block<hi
section
variable {w w' : World} {lo hi lo' hi' B n c : Nat} {A A' : Option Addr} {xs : List Int}
theorem OwnI.mono(h:OwnI w lo hi A n c xs)(hl:lo'≤lo)(hh:hi≤hi'):OwnI w lo' hi' A n c xs:=by
 obtain⟨h1,⟨h2,h3⟩,h4⟩:=h;refine⟨h1,⟨h2, ?_⟩,fun a e=>Nat.lt_of_lt_of_le (h4 a e) hh⟩;rcases h3 with h3|⟨g,cap,cur,hv,hg,r⟩
 ·exact .inl h3
 ·exact .inr ⟨g,cap,cur,hv,by omega,r⟩
theorem OwnI.form(h:OwnI w lo hi A n c xs):(A=none∧n=0∧c=0∧xs=[])∨
  ∃g cur,A=some ⟨g,0,none⟩∧lo≤g∧g<hi∧w.heap[g]? =some (.cells cur 3 (0,0))∧n≤c∧c≤maxLen∧cur.size=c∧cur.toList.take n=xs.map (.int .i64):=by
 obtain⟨h1,⟨h2,h3⟩,h4⟩:=h;rcases h3 with ⟨hv,hn⟩|⟨g,cap,cur,hv,hg,hh,hnc,hm,hs,ht⟩
 ·simp only[Value.slice.injEq]at hv
  obtain⟨rfl,rfl,rfl⟩:=hv;exact .inl ⟨rfl,rfl,rfl,List.eq_nil_of_length_eq_zero h1⟩
 ·simp only[Value.slice.injEq]at hv
  obtain⟨rfl,_,rfl⟩:=hv;exact .inr ⟨g,cur,rfl,hg,h4 _ rfl,hh,hnc,hm,by simpa using hs,by simpa using ht⟩
theorem OwnI.nil:OwnI w lo hi none 0 0 []:=⟨rfl,World.ownsRow_nil _ _ _ _,fun a e=>by cases e⟩
theorem OwnI.ints(h:OwnI w lo hi A n c xs):IntsAt w hi A n xs:=by
 refine⟨h.1,fun hn=> ?_⟩;rcases h.form with ⟨_,h0,_⟩|⟨g,cur,rfl,hlo,hhi,hh,hnc,hm,hs,ht⟩
 ·omega
 ·refine⟨g,0,rfl,hhi,fun j hj=> ?_⟩
  rw[Nat.zero_add,cell_of_row w g j cur _ (0,0) hh];have e:(cur.toList.take n)[j]? =(xs.map (Value.int .i64))[j]? :=by rw[ht]
  rw[List.getElem?_take,if_pos hj]at e;have hx:j<xs.length:=by have:=h.1;omega
  simpa [zg hx]using e
theorem OwnI.lt(h:OwnI w lo hi A n c xs):∀a,A=some a→lo≤a.block∧a.block<w.heap.size∧a.block<hi:=by
 intro a e;rcases h.form with ⟨rfl,_⟩|⟨g,cur,rfl,hlo,hhi,hh,_⟩
 ·cases e
 ·injection e with e
  subst e;exact⟨hlo,(Array.getElem?_eq_some_iff.1 hh).1,hhi⟩
theorem OwnI.top(h:OwnI w lo hi A n c xs):OwnI w lo w.heap.size A n c xs:=⟨h.1,h.2.1,fun a e=>(h.lt a e).2.1⟩
theorem OwnI.set{g:Nat}(h:OwnI w lo hi (some ⟨g,0,none⟩) n c xs)(j:Nat)(x:Int):
  OwnI (w.setCell ⟨g,j,none⟩ (.int .i64 x)) lo hi (some ⟨g,0,none⟩) n c (xs.set j x)∧w.grownBy (w.setCell ⟨g,j,none⟩ (.int .i64 x)) (some g):=by
 have r:=h.2.1.stored j (.int .i64 x);exact⟨⟨by simpa using h.1,by simpa [List.map_set]using r.1,h.2.2⟩,r.2⟩
end
theorem OwnI.cap{w:World}{lo hi n c:Nat}{A:Option Addr}{xs:List Int}(h:OwnI w lo hi A n c xs):n≤c:=by
 rcases h.form with ⟨rfl,rfl,rfl,rfl⟩|⟨g,cur,rfl,hlo,hhi,hh,hnc,hm,hs,ht⟩<;>omega
structure Only(S:Nat→Prop)(w w':World):Prop where
 os:w'.os=w.os
 tape:w'.tape=w.tape
 output:w'.output=w.output
 size:w.heap.size≤w'.heap.size
 block:∀k,k<w.heap.size→¬ S k→w'.heap[k]? =w.heap[k]?
section
variable {S S' : Nat → Prop} {w w' w'' : World} {B : Nat}
theorem Only.trans(h:Only S w w')(h':Only S w' w''):Only S w w'':=
 ⟨h'.os.trans h.os,h'.tape.trans h.tape,h'.output.trans h.output,Nat.le_trans h.size h'.size,fun k hk hn=>(h'.block k (Nat.lt_of_lt_of_le hk h.size) hn).trans (h.block k hk hn)⟩
theorem Only.mono(h:Only S w w')(hs:∀k,k<w.heap.size→S k→S' k):Only S' w w':=⟨h.os,h.tape,h.output,h.size,fun k hk hn=>h.block k hk (fun x=>hn (hs k hk x))⟩
theorem Only.cells(h:Only S w w'){b:Nat}(hb:b<w.heap.size)(hn:¬ S b):(∀o,w'.cell? ⟨b,o,none⟩=w.cell? ⟨b,o,none⟩)∧(∀o,w'.frozen? ⟨b,o,none⟩=w.frozen? ⟨b,o,none⟩):=
 ⟨fun o=>World.cell?_of_block (a:=⟨b,o,none⟩) (h.block b hb hn),fun o=>World.frozen?_of_block (a:=⟨b,o,none⟩) (h.block b hb hn)⟩
end
structure Ten where
 labels:List Int
 dims:List Int
 data:List Int
structure TenAt(w:World)(B:Nat)(A0:Option Addr)(n0:Nat)(A1:Option Addr)(n1:Nat)(A2:Option Addr)(n2:Nat)(t:Ten):Prop where
 l:IntsAt w B A0 n0 t.labels
 d:IntsAt w B A1 n1 t.dims
 x:IntsAt w B A2 n2 t.data
structure OwnT(w:World)(lo hi:Nat)(A0:Option Addr)(n0 c0:Nat)(A1:Option Addr)(n1 c1:Nat)(A2:Option Addr)(n2 c2:Nat)(t:Ten):Prop where
 l:OwnI w lo hi A0 n0 c0 t.labels
 d:OwnI w lo hi A1 n1 c1 t.dims
 x:OwnI w lo hi A2 n2 c2 t.data
 ld:Apart A0 A1
 lx:Apart A0 A2
 dx:Apart A1 A2
section
variable {w w' : World} {B B' lo hi lo' hi' n0 c0 n1 c1 n2 c2 : Nat} {A0 A1 A2 : Option Addr} {t : Ten}
theorem TenAt.mono(h:TenAt w B A0 n0 A1 n1 A2 n2 t)(hB:B≤B'):TenAt w B' A0 n0 A1 n1 A2 n2 t:=⟨h.l.mono hB,h.d.mono hB,h.x.mono hB⟩
theorem OwnT.mono(h:OwnT w lo hi A0 n0 c0 A1 n1 c1 A2 n2 c2 t)(hl:lo'≤lo)(hh:hi≤hi'):OwnT w lo' hi' A0 n0 c0 A1 n1 c1 A2 n2 c2 t:=
 ⟨h.l.mono hl hh,h.d.mono hl hh,h.x.mono hl hh,h.ld,h.lx,h.dx⟩
end
def RetV(w:World)(v:Value)(e:Ending)(w':World):Prop:=e=.returned v∧Below w.heap.size w w'
theorem K2{k:IntKind}{a b:Int}(h:a=b):Ending.returned (.int k a)=.returned (.int k b):=by rw[h]
def cl(n:Nat):Array Value:=madeCells #[.int .i64 0] n
end Go.Proofs.YtobhmajhachnaaaGreatDoor
namespace Go.Proofs.YtobhmajhachnaaaGreatDoor
open Go.ChangeShapes Go.WideShapes Go.ChangeAt Go.RowKit
theorem own:ownKnob Tryz.prog.godebug=none:=by kernel_rfl
theorem Ki:laidOutB Tryz.prog=true:=by kernel_rfl
def I64(x:Int):Prop:= -9223372036854775808≤x∧x≤9223372036854775807
theorem I64.of_wf{x:Int}(h:(Lit.int .i64 x).wf=true):I64 x:=by
 have h':(decide ((-9223372036854775808:Int)≤x)&&decide (x≤(9223372036854775807:Int)))=true:=h;simpa [I64]using h'
structure SlIn(w:World)(A:Option Addr)(n c:Nat)(xs:List Int):Prop where
 at_:IntsAt w w.heap.size A n xs
 len:n≤9223372036854775807
 cap:n≤c
 wf:∀x∈xs,I64 x
structure TnIn(w:World)(A0:Option Addr)(n0 c0:Nat)(A1:Option Addr)(n1 c1:Nat)(A2:Option Addr)(n2 c2:Nat)(t:Ten):Prop where
 l:SlIn w A0 n0 c0 t.labels
 d:SlIn w A1 n1 c1 t.dims
 x:SlIn w A2 n2 c2 t.data
set_option maxRecDepth 100000
section
variable {H : Type} {enc : TypeId × Value → H} {w : World} {base : Nat} {held : Bool} {r : Reach}
end
end Go.Proofs.YtobhmajhachnaaaGreatDoor
namespace Go.Proofs.YtobhmajhachnaaaGreatDoor
open Go.RowKit
def Step(W W':World):Prop:=Below W.heap.size W W'
section
variable {w W W' W'' : World} {B lo hi n c : Nat} {A : Option Addr} {xs : List Int}
theorem Step.trans(h:Step W W')(h':Step W' W''):Step W W'':=Below.trans h (Below.mono h' (Below.size h))
theorem Step.size(h:Step W W'):W.heap.size≤W'.heap.size:=Below.size h
theorem IntsAt.top(h:IntsAt W B A n xs):IntsAt W W.heap.size A n xs:=
 ⟨h.1,fun hn=>by
  obtain⟨b,off,e,hlt,hc⟩:=h.2 hn;exact⟨b,off,e,World.block_lt_of_cell? W _ (hc 0 hn),hc⟩⟩
variable {n0 c0 n1 c1 n2 c2 : Nat} {A0 A1 A2 : Option Addr} {t : Ten}
theorem TenAt.top(h:TenAt W B A0 n0 A1 n1 A2 n2 t):TenAt W W.heap.size A0 n0 A1 n1 A2 n2 t:=⟨h.l.top,h.d.top,h.x.top⟩
end
structure SlOk(W:World)(A:Option Addr)(n c:Nat)(xs:List Int):Prop where
 at_:IntsAt W W.heap.size A n xs
 len:n≤1099511627776
 cap:n≤c
 wf:∀x∈xs,I64 x
structure TnOk(W:World)(A0:Option Addr)(n0 c0:Nat)(A1:Option Addr)(n1 c1:Nat)(A2:Option Addr)(n2 c2:Nat)(t:Ten):Prop where
 l:SlOk W A0 n0 c0 t.labels
 d:SlOk W A1 n1 c1 t.dims
 x:SlOk W A2 n2 c2 t.data
section
variable {w W W' : World} {lo hi n c : Nat} {A : Option Addr} {xs : List Int} {n0 c0 n1 c1 n2 c2 : Nat} {A0 A1 A2 : Option Addr} {t : Ten}
theorem OwnI.ok(h:OwnI W lo hi A n c xs)(hn:n≤1099511627776)(hw:∀x∈xs,I64 x):SlOk W A n c xs:=⟨h.ints.top,hn,h.cap,hw⟩
end
structure SlSz(n:Nat)(xs:List Int):Prop where
 len:xs.length≤n
 wf:∀x∈xs,I64 x
structure TnSz(n:Nat)(t:Ten):Prop where
 l:SlSz n t.labels
 d:SlSz n t.dims
 x:SlSz n t.data
section
variable {w W W' : World} {lo hi n c m : Nat} {A : Option Addr} {xs : List Int} {n0 c0 n1 c1 n2 c2 : Nat} {A0 A1 A2 : Option Addr} {t : Ten}
end
section
variable {w W W' : World} {S : Nat → Prop} {lo hi lo' hi' n c B : Nat} {A : Option Addr} {xs : List Int} {n0 c0 n1 c1 n2 c2 : Nat} {A0 A1 A2 : Option Addr} {t : Ten}
end
structure VarT(W0 W:World)(lo hi b:Nat)(A0:Option Addr)(c0:Nat)(A1:Option Addr)(c1:Nat)(A2:Option Addr)(c2:Nat)(t:Ten):Prop where
 b0:W.cell? ⟨b,0,none⟩=some (.slice A0 t.labels.length c0)
 b1:W.cell? ⟨b,1,none⟩=some (.slice A1 t.dims.length c1)
 b2:W.cell? ⟨b,2,none⟩=some (.slice A2 t.data.length c2)
 own:OwnT W lo hi A0 t.labels.length c0 A1 t.dims.length c1 A2 t.data.length c2 t
 st:Step W0 W
 lo0:W0.heap.size≤lo
 lohi:lo≤hi
 hi1:hi≤W.heap.size
 bl:W0.heap.size≤b
 bh:b<W.heap.size
 off:b<lo∨hi≤b
section
variable {W0 W : World} {lo hi b : Nat} {A0 : Option Addr} {c0 : Nat} {A1 : Option Addr} {c1 : Nat} {A2 : Option Addr} {c2 : Nat} {t : Ten}
theorem Step.set{W W':World}(st:Step W W'){b o:Nat}(hb:W.heap.size≤b)(v:Value):Step W (W'.setCell ⟨b,o,none⟩ v):=Below.setCell st (p:=⟨b,o,none⟩) hb v
end
end Go.Proofs.YtobhmajhachnaaaGreatDoor
namespace Go.Proofs.YtobhmajhachnaaaGreatDoor
open Go.RowKit Plain
abbrev tv(A0:Option Addr)(n0 c0:Nat)(A1:Option Addr)(n1 c1:Nat)(A2:Option Addr)(n2 c2:Nat):Value:=.agg #[.slice A0 n0 c0,.slice A1 n1 c1,.slice A2 n2 c2]
abbrev rv(r:Rg):Value:=.agg #[.int .i64 r.k,.int .i64 r.p,.int .i64 r.n]
section
variable {W : World} {k p n : Int} {A : Option Addr} {m c : Nat} {xs : List Int}
end
end Go.Proofs.YtobhmajhachnaaaGreatDoor
namespace Go.Proofs.YtobhmajhachnaaaGreatDoor
open Go.RowKit
section
variable {P : Program} {l : List Oper} {Q : Exit → Act → World → Prop} {md : Region.Mode} {S : World → Prop} {fuel : Nat} {listed : Array Bool} {a : Act} {w : World}
end
end Go.Proofs.YtobhmajhachnaaaGreatDoor
namespace Go.Proofs.YtobhmajhachnaaaGreatDoor
open Go.RowKit Plain
section
variable {W : World} {k p n : Int} {A0 : Option Addr} {n0 c0 : Nat} {A1 : Option Addr} {n1 c1 : Nat} {A2 : Option Addr} {n2 c2 : Nat} {t : Ten}
end
section
variable {W : World} {k p n : Int} {A0 : Option Addr} {n0 c0 : Nat} {A1 : Option Addr} {n1 c1 : Nat} {A2 : Option Addr} {n2 c2 : Nat} {t : Ten}
end
section
variable {W : World} {A : Option Addr} {n c : Nat} {ds : List Int} {A' : Option Addr} {n' c' : Nat} {is : List Int}
theorem Ch(hd:SlOk W A n c ds)(hi:SlOk W A' n' c' is)(hok:vj ds is)(hdm:∀d∈ds,1≤d∧d≤8)(hp:aa ds≤4096):
  Calls Tryz.prog 83 #[.slice A n c,.slice A' n' c'] W fun e w'=>e=.returned (.int .i64 (offs ds is))∧W=w':=by
 have hld:=Lib.hid hd.at_.len;have hli:=Lib.hid hi.at_.len;have hdn:=hd.len;obtain rfl:n=n':=by rw[← hld.out, ← hli.out,hok.1]
 have HB:=Lib.hid (fun k hk=>z7 ds is (fun d hx=>(hdm d hx).1) k hk (fun j hj=>hok.2 j (by omega)));have HT:=Lib.hid (fun k=>Int.le_trans (lG ds k (fun d hx=>(hdm d hx).1)) hp);have HOK:=Lib.hid hok;have HDM:=Lib.hid hdm;clear hok hdm
 go_enter Tryz.func83,Tryz.ntmps83
 go_wp2
 go_loop [5,10] (fun s i=>∃k:Nat,k≤n∧i=.int .i64 k∧s=.int .i64 (eM ds is k)) (fun _ i=>n-(intOf i).toNat)
 case atStart=>exact⟨0,Nat.zero_le _,rfl,rfl⟩
 case round=>
  obtain⟨k,hk,rfl,rfl⟩:=hrel;by_cases hlt:k<n
  ·obtain⟨b,off,rfl,hb,hc⟩:=hd.at_.at_ (by omega)
   obtain⟨b',off',rfl,hb',hc'⟩:=hi.at_.at_ (by omega);have hck:=hc k hlt;have hck':=hc' k hlt;obtain⟨u1,u2⟩:=HB.out k (by rw[hld.out];omega);have u3:=HT.out k;have v:=HB.out (k+1) (by rw[hld.out];omega);have hs:=Lib.hid (oB ds is k);rw[oB]at v;obtain⟨v1,v2⟩:=v;have v3:=HT.out (k+1);obtain⟨i1,i2⟩:=HOK.out.2 k (by rw[hld.out];omega);obtain⟨d1,d2⟩:=HDM.out _ (dN ds k (by rw[hld.out];omega));generalize hx:is.getD k 0=x at*;generalize hy:ds.getD k 0=y at*;generalize ho:eM ds is k=o at*;have w1:0≤o*y:=Int.mul_nonneg u1 (by omega);have w2:o*y≤4096:=by omega
   have hki:(k:Int)<(n:Int):=by omega
   clear hx hy ho hc hc' hd hi
   go_wp2
   go_round
   case rel=>exact⟨k+1,by omega,by go_num,by rw[hs.out]⟩
   case measure=>simp [intOf];omega
  ·go_wp2
   go_ret
   obtain rfl:k=n:=by omega
   exact⟨K2 (by unfold offs;rw[hld.out]),rfl⟩
end
section
variable {W : World} {A0 : Option Addr} {n0 c0 : Nat} {A1 : Option Addr} {n1 c1 : Nat} {A2 : Option Addr} {n2 c2 : Nat} {t : Ten} {A : Option Addr} {n c : Nat} {is : List Int} {x : Int}
end
section
variable {W : World} {A0 : Option Addr} {n0 c0 : Nat} {A1 : Option Addr} {n1 c1 : Nat} {A2 : Option Addr} {n2 c2 : Nat} {t : Ten} {x : Int}
end
end Go.Proofs.YtobhmajhachnaaaGreatDoor
