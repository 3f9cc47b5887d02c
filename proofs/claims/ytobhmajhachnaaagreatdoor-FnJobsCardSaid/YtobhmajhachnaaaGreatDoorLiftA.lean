/-
 LIFT, part 1: plain data, abstract values, what a concrete value and memory must be to read as them. No condition.
-/
import Derived.Calls
import Derived.Orders
import Derived.Below
import Derived.Laws.CopyRow
import Derived.Laws.AppendOwn
import Derived.Laws.MakeOwn
import Derived.StillTail
import Derived.Laws.StructEq
import Derived.Laws.Concat
import Derived.Laws.Strings
import Derived.Laws.BytesString
import Derived.Test.YtobhmajhachnaaaGreatDoorAdm
namespace Go.Lift
open Go.RowKit
inductive D where
 |int (n:Int)
 |bool (b:Bool)
 |str (s:ByteArray)
 |byte (n:Int)
 |sl (n:Nat) (l:List D)
inductive AV where
 |any
 |und
 |nil
 |d (x:D)
 |own (k off n:Nat)
 |sub (k j:Nat)
 |ptr (k off:Nat)
 |sptr (k j off:Nat)
 |rptr (l:List D) (off:Nat)
 |tr (x:D)
 |lv (n:Nat)
 |agg (l:List AV)
 |tup (l:List AV)
 |clo (f:Nat) (l:List AV)
 deriving Inhabited
structure Root where
 e:Nat
 g:Bool
 cells:List AV
inductive Lab where
 |im|off|r (k:Nat) (p:List Nat)
 deriving DecidableEq
abbrev Labels:=Nat→Lab
abbrev St:=Nat→Option Root
def Im(w:World)(γ:Labels)(b:Nat):Prop:=b<w.heap.size∧γ b=.im
mutual
def Rd(w:World)(I:Nat→Prop):D→Value→Prop
 | .int n,v=>v=.int .i64 n
 | .bool b,v=>v=.bool b
 | .str s,v=>v=.string s
 | .byte n,v=>v=.int .u8 n
 | .sl n l,v=>∃A c,v=.slice A n c∧n≤c∧((n=0∧l=[])∨∃b o,A=some ⟨b,o,none⟩∧I b∧RdL w I l b o)
def RdL(w:World)(I:Nat→Prop):List D→Nat→Nat→Prop
 | [],_,_=>True
 |x :: l,b,o=>(∃v,w.cell? ⟨b,o,none⟩=some v∧Rd w I x v)∧RdL w I l b (o+1)
end
mutual
def Tree(w:World)(γ:Labels)(k:Nat)(p:List Nat):D→Value→Prop
 | .int n,v=>v=.int .i64 n
 | .bool b,v=>v=.bool b
 | .str s,v=>v=.string s
 | .byte n,v=>v=.int .u8 n
 | .sl n l,v=>∃A c,v=.slice A n c∧n≤c∧((A=none∧n=0∧c=0∧l=[])∨
   ∃b cur T,A=some ⟨b,0,none⟩∧γ b=.r k p∧w.heap[b]? =some (.cells cur T (0,0))∧TreeL w γ k p 0 l cur.toList)
def TreeL(w:World)(γ:Labels)(k:Nat)(p:List Nat)(j:Nat):List D→List Value→Prop
 | [],_=>True
 |x :: l,vs=>∃v vs',vs=v :: vs'∧Tree w γ k (p++[j]) x v∧TreeL w γ k p (j+1) l vs'
end
mutual
def Rel(w:World)(γ:Labels)(φ:Nat→Nat)(s:St):AV→Value→Prop
 | .any,_=>True
 | .und,v=>v=undef
 | .nil,v=>v=.slice none 0 0
 | .d x,v=>Rd w (Im w γ) x v
 | .own k off n,v=>∃R,s k=some R∧((v=.slice none 0 0∧n=0∧off=0)∨
   ∃c cur T,v=.slice (some ⟨φ k,off,none⟩) n c∧n≤c∧γ (φ k)=.r k []∧w.heap[φ k]? =some (.cells cur T (0,0))∧(R.g=true→off+c*R.e≤cur.size))
 | .sub k j,v=>∃R x cur T f,s k=some R∧R.cells[j]? =some (.tr x)∧w.heap[φ k]? =some (.cells cur T f)∧cur[j]? =some v
 | .ptr k off,v=>∃R,s k=some R∧v=.pointer (some ⟨φ k,off,none⟩)
 | .sptr k j off,v=>∃R x cur T f b n c,s k=some R∧R.cells[j]? =some (.tr x)∧w.heap[φ k]? =some (.cells cur T f)∧cur[j]? =some (.slice (some ⟨b,0,none⟩) n c)∧v=.pointer (some ⟨b,off,none⟩)
 | .rptr l off,v=>∃b o,v=.pointer (some ⟨b,o+off,none⟩)∧Im w γ b∧RdL w (Im w γ) l b o
 | .tr _,_=>False
 | .lv n,v=>∃A c,v=.slice A n c
 | .agg l,v=>∃vs,v=.agg vs∧RelL w γ φ s l vs.toList
 | .tup l,v=>∃vs,v=.tuple vs∧RelL w γ φ s l vs.toList
 | .clo f l,v=>∃vs,v=.func (.func f) #[] vs∧RelL w γ φ s l vs.toList
def RelL(w:World)(γ:Labels)(φ:Nat→Nat)(s:St):List AV→List Value→Prop
 | [],vs=>vs=[]
 |x :: l,vs=>∃v vs',vs=v :: vs'∧Rel w γ φ s x v∧RelL w γ φ s l vs'
end
def CRel(w:World)(γ:Labels)(φ:Nat→Nat)(s:St)(k j:Nat)(av:AV)(v:Value):Prop:=
 match av with
 | .tr x=>Tree w γ k [j] x v
 |av=>Rel w γ φ s av v
def Adm(γ:Labels)(w:World):Prop:=∀b l,(b,l)∈qc→γ b=.im∧∃cur T f,l cur.toList∧w.heap[b]? =some (.cells cur T f)
structure Sim(γ:Labels)(φ:Nat→Nat)(s:St)(w:World):Prop where
 bound:∀b k p,γ b=.r k p→b<w.heap.size
 root:∀k R,s k=some R→R.cells=[]∨∃cur T,w.heap[φ k]? =some (.cells cur T (0,0))∧γ (φ k)=.r k []∧R.cells.length≤cur.size∧
  ∀j av,R.cells[j]? =some av→∃v,cur[j]? =some v∧CRel w γ φ s k j av v
 adm:Adm γ w
structure Kst(γ:Labels)(w:World)(γ':Labels)(w':World):Prop where
 os:w'.os=w.os
 tape:w'.tape=w.tape
 output:w'.output=w.output
 size:w.heap.size≤w'.heap.size
 blk:∀b,b<w.heap.size→(∀k p,γ b≠ .r k p)→w'.heap[b]? =w.heap[b]? ∧γ' b=γ b
 shape:∀(b:Nat) (cur:Array Value) (T:TypeId) (f:Nat × Nat),w.heap[b]? =some (Obj.cells cur T f)→∃cur':Array Value,w'.heap[b]? =some (Obj.cells cur' T f)∧cur'.size=cur.size
theorem Kst.refl(γ:Labels)(w:World):Kst γ w γ w:=⟨rfl,rfl,rfl,Nat.le_refl _,fun _ _ _=>⟨rfl,rfl⟩,fun _ cur _ _ h=>⟨cur,h,rfl⟩⟩
theorem Kst.trans{γ γ' γ'':Labels}{w w' w'':World}(h:Kst γ w γ' w')(h':Kst γ' w' γ'' w''):Kst γ w γ'' w'':=
 ⟨h'.os.trans h.os,h'.tape.trans h.tape,h'.output.trans h.output,Nat.le_trans h.size h'.size,
  fun b hb hn=>by
   obtain⟨e,n⟩:=h.blk b hb hn;obtain⟨e',n'⟩:=h'.blk b (Nat.lt_of_lt_of_le hb h.size) (by rw[n];exact hn);exact⟨e'.trans e,n'.trans n⟩,
  fun b cur T f e=>by
   obtain⟨c1,e1,s1⟩:=h.shape b cur T f e;obtain⟨c2,e2,s2⟩:=h'.shape b c1 T f e1;exact⟨c2,e2,s2.trans s1⟩⟩
theorem Kst.drew(γ:Labels)(w:World):Kst γ w γ w.drew:=⟨rfl,rfl,rfl,Nat.le_refl _,fun _ _ _=>⟨rfl,rfl⟩,fun _ cur _ _ h=>⟨cur,h,rfl⟩⟩
theorem Adm.mono{γ γ':Labels}{w w':World}(h:Adm γ w)(hK:Kst γ w γ' w'):Adm γ' w':=fun b l hb=>by
 obtain⟨h1,cur,T,f,h2,h3⟩:=h b l hb;have hlt:b<w.heap.size:=by
  false_or_by_contra
  rename_i hc;rw[Array.getElem?_eq_none (by omega)]at h3;cases h3
 obtain⟨e,n⟩:=hK.blk b hlt (by rw[h1];intro k p;simp);exact⟨n.trans h1,cur,T,f,h2,e.trans h3⟩
theorem Kst.im{γ γ':Labels}{w w':World}(h:Kst γ w γ' w'){b:Nat}(hb:Im w γ b):Im w' γ' b∧w'.heap[b]? =w.heap[b]? :=by
 obtain⟨e,n⟩:=h.blk b hb.1 (by rw[hb.2];intro k p;simp);exact⟨⟨Nat.lt_of_lt_of_le hb.1 h.size,n.trans hb.2⟩,e⟩
section
variable {w w' : World} {I I' : Nat → Prop}
mutual
theorem Rd.mono(h:∀b,I b→I' b∧w'.heap[b]? =w.heap[b]?):∀(x:D) (v:Value),Rd w I x v→Rd w' I' x v
 | .int _,_,hr=>by simpa only[Rd]using hr
 | .bool _,_,hr=>by simpa only[Rd]using hr
 | .str _,_,hr=>by simpa only[Rd]using hr
 | .byte _,_,hr=>by simpa only[Rd]using hr
 | .sl n l,v,hr=>by
  simp only[Rd]at hr ⊢;obtain⟨A,c,e,hc,hr⟩:=hr;refine⟨A,c,e,hc, ?_⟩;rcases hr with hr|⟨b,o,eA,hb,hl⟩
  ·exact .inl hr
  ·exact .inr ⟨b,o,eA,(h b hb).1,RdL.mono h l b o hb hl⟩
theorem RdL.mono(h:∀b,I b→I' b∧w'.heap[b]? =w.heap[b]?):∀(l:List D) (b o:Nat),I b→RdL w I l b o→RdL w' I' l b o
 | [],_,_,_,_=>by simp only[RdL]
 |x :: l,b,o,hb,hr=>by
  simp only[RdL]at hr ⊢;obtain⟨⟨v,hv,hx⟩,hl⟩:=hr;exact⟨⟨v,(World.cell?_of_block (a:=⟨b,o,none⟩) (h b hb).2).trans hv,Rd.mono h x v hx⟩,RdL.mono h l b (o+1) hb hl⟩
end
theorem RdL.get:∀{l:List D} {b o i:Nat} {x:D},RdL w I l b o→l[i]? =some x→∃v,w.cell? ⟨b,o+i,none⟩=some v∧Rd w I x v
 | [],_,_,_,_,_,h=>by simp at h
 |y :: l,b,o,0,x,hr,h=>by
  simp only[RdL]at hr;simp at h;subst h;exact hr.1
 |y :: l,b,o,i+1,x,hr,h=>by
  simp only[RdL]at hr;have:=RdL.get hr.2 (i:=i) (by simpa using h);rw[show o+(i+1)=o+1+i by omega];exact this
theorem RdL.of_get:∀{l:List D} {b o:Nat},(∀i x,l[i]? =some x→∃v,w.cell? ⟨b,o+i,none⟩=some v∧Rd w I x v)→RdL w I l b o
 | [],_,_,_=>by simp only[RdL]
 |y :: l,b,o,h=>by
  simp only[RdL];refine⟨h 0 y (by simp),RdL.of_get fun i x hx=> ?_⟩;have:=h (i+1) x (by simpa using hx)
  rwa [show o+1+i=o+(i+1)by omega]
end
section
variable {w w' : World} {γ γ' : Labels} {k k' : Nat}
mutual
theorem Tree.mono{p:List Nat}(hp:p≠[])(h:∀b q,q≠[]→γ b=.r k q→γ' b=.r k q∧w'.heap[b]? =w.heap[b]?):∀(x:D) (v:Value),Tree w γ k p x v→Tree w' γ' k p x v
 | .int _,_,hr=>by simpa only[Tree]using hr
 | .bool _,_,hr=>by simpa only[Tree]using hr
 | .str _,_,hr=>by simpa only[Tree]using hr
 | .byte _,_,hr=>by simpa only[Tree]using hr
 | .sl n l,v,hr=>by
  simp only[Tree]at hr ⊢;obtain⟨A,c,e,hc,hr⟩:=hr;refine⟨A,c,e,hc, ?_⟩;rcases hr with hr|⟨b,cur,T,eA,hg,hh,hl⟩
  ·exact .inl hr
  ·exact .inr ⟨b,cur,T,eA,(h b p hp hg).1,(h b p hp hg).2.trans hh,TreeL.mono hp h l _ _ hl⟩
theorem TreeL.mono{p:List Nat}(hp:p≠[])(h:∀b q,q≠[]→γ b=.r k q→γ' b=.r k q∧w'.heap[b]? =w.heap[b]?):∀(l:List D) (j:Nat) (vs:List Value),TreeL w γ k p j l vs→TreeL w' γ' k p j l vs
 | [],_,_,_=>by simp only[TreeL]
 |x :: l,j,vs,hr=>by
  simp only[TreeL]at hr ⊢;obtain⟨v,vs',e,hx,hl⟩:=hr;exact⟨v,vs',e,Tree.mono (by simp) h x v hx,TreeL.mono hp h l _ _ hl⟩
end
theorem TreeL.get{p:List Nat}:∀{l:List D} {j i:Nat} {vs:List Value} {x:D},TreeL w γ k p j l vs→l[i]? =some x→∃v,vs[i]? =some v∧Tree w γ k (p++[j+i]) x v
 | [],_,_,_,_,_,h=>by simp at h
 |y :: l,j,0,vs,x,hr,h=>by
  simp only[TreeL]at hr;obtain⟨v,vs',rfl,hx,_⟩:=hr;simp at h;subst h;exact⟨v,by simp,hx⟩
 |y :: l,j,i+1,vs,x,hr,h=>by
  simp only[TreeL]at hr;obtain⟨v,vs',rfl,_,hl⟩:=hr;obtain⟨u,hu,ht⟩:=TreeL.get hl (i:=i) (by simpa using h);exact⟨u,by simpa using hu,by rwa [show j+(i+1)=j+1+i by omega]⟩
end
end Go.Lift
namespace Go.Lift
open Go.RowKit
theorem goff{a b:Bool}(h:b=true→a=true)(h':a=false):b=false:=by cases b<;>simp_all
def Live(w:World)(γ:Labels)(φ:Nat→Nat)(s:St)(w':World)(γ':Labels)(φ':Nat→Nat)(s':St):Prop:=
 ∀(k:Nat) (R:Root),s k=some R→φ' k=φ k∧∃R',s' k=some R'∧R'.e=R.e∧(R'.g=true→R.g=true)∧(γ (φ k)=.r k []→γ' (φ k)=.r k [])∧
  ∀(j:Nat) (x:D),R.cells[j]? =some (AV.tr x)→(∃x',R'.cells[j]? =some (AV.tr x'))∧
   ∀(cur cur':Array Value) (T:TypeId) (f:Nat × Nat) (T':TypeId) (f':Nat × Nat),w.heap[φ k]? =some (Obj.cells cur T f)→w'.heap[φ k]? =some (Obj.cells cur' T' f')→cur'[j]? =cur[j]?
theorem Live.refl(w:World)(γ:Labels)(φ:Nat→Nat)(s:St):Live w γ φ s w γ φ s:=by
 intro k R hk;refine⟨rfl,R,hk,rfl,id,id,fun j x hx=>⟨⟨x,hx⟩,fun cur cur' T f T' f' h h'=> ?_⟩⟩;rw[h]at h';simp at h';rw[h'.1]
section
variable {w w' : World} {γ γ' : Labels} {φ φ' : Nat → Nat} {s s' : St}
mutual
theorem Rel.mono(hK:Kst γ w γ' w')(hL:Live w γ φ s w' γ' φ' s'):∀(av:AV) (v:Value),Rel w γ φ s av v→Rel w' γ' φ' s' av v
 | .any,_,_=>by simp only[Rel]
 | .und,_,h=>by simpa only[Rel]using h
 | .nil,_,h=>by simpa only[Rel]using h
 | .d x,v,h=>by
  simp only[Rel]at h ⊢;exact Rd.mono (fun b hb=>hK.im hb) x v h
 | .own k off n,v,h=>by
   simp only[Rel]at h ⊢;obtain⟨R,hR,h⟩:=h;obtain⟨hφ,R',hR',he,hg,hlab,_⟩:=hL k R hR;refine⟨R',hR', ?_⟩;rcases h with h|⟨c,cur,T,hv,hn,hl,hh,hc⟩
   ·exact .inl h
   ·obtain⟨cur',hh',hs'⟩:=hK.shape _ _ _ _ hh
    exact .inr ⟨c,cur',T,by rw[hφ];exact hv,hn,by rw[hφ];exact hlab hl,by rw[hφ];exact hh',fun h0=>by rw[he,hs'];exact hc (hg h0)⟩
 | .sub k j,v,h=>by
   simp only[Rel]at h ⊢;obtain⟨R,x,cur,T,f,hR,hx,hh,hv⟩:=h;obtain⟨hφ,R',hR',he,hg,hlab,hj⟩:=hL k R hR;obtain⟨⟨x',hx'⟩,hcur⟩:=hj j x hx;obtain⟨cur',hh',hs'⟩:=hK.shape _ _ _ _ hh;exact⟨R',x',cur',T,f,hR',hx',by rw[hφ];exact hh',by rw[hcur _ _ _ _ _ _ hh hh'];exact hv⟩
 | .ptr k off,v,h=>by
   simp only[Rel]at h ⊢;obtain⟨R,hR,hv⟩:=h;obtain⟨hφ,R',hR',he,hg,hlab,_⟩:=hL k R hR;exact⟨R',hR',by rw[hφ];exact hv⟩
 | .sptr k j off,v,h=>by
   simp only[Rel]at h ⊢;obtain⟨R,x,cur,T,f,b,n,c,hR,hx,hh,hv,e⟩:=h;obtain⟨hφ,R',hR',he,hg,hlab,hj⟩:=hL k R hR;obtain⟨⟨x',hx'⟩,hcur⟩:=hj j x hx;obtain⟨cur',hh',hs'⟩:=hK.shape _ _ _ _ hh;exact⟨R',x',cur',T,f,b,n,c,hR',hx',by rw[hφ];exact hh',by rw[hcur _ _ _ _ _ _ hh hh'];exact hv,e⟩
 | .rptr l off,v,h=>by
  simp only[Rel]at h ⊢;obtain⟨b,o,e,hb,hl⟩:=h;exact⟨b,o,e,(hK.im hb).1,RdL.mono (fun b hb=>hK.im hb) l b o hb hl⟩
 | .tr x,_,h=>by simp only[Rel]at h
 | .lv n,v,h=>by simpa only[Rel]using h
 | .agg l,v,h=>by
  simp only[Rel]at h ⊢;obtain⟨vs,e,hl⟩:=h;exact⟨vs,e,RelL.mono hK hL l _ hl⟩
 | .tup l,v,h=>by
  simp only[Rel]at h ⊢;obtain⟨vs,e,hl⟩:=h;exact⟨vs,e,RelL.mono hK hL l _ hl⟩
 | .clo f l,v,h=>by
  simp only[Rel]at h ⊢;obtain⟨vs,e,hl⟩:=h;exact⟨vs,e,RelL.mono hK hL l _ hl⟩
theorem RelL.mono(hK:Kst γ w γ' w')(hL:Live w γ φ s w' γ' φ' s'):∀(l:List AV) (vs:List Value),RelL w γ φ s l vs→RelL w' γ' φ' s' (l) vs
 | [],_,h=>by simpa only[RelL]using h
 |x :: l,vs,h=>by
  simp only[RelL]at h ⊢;obtain⟨v,vs',e,hx,hl⟩:=h;exact⟨v,vs',e,Rel.mono hK hL x v hx,RelL.mono hK hL l vs' hl⟩
end
theorem RelL.get:∀{l:List AV} {vs:List Value} {i:Nat} {x:AV},RelL w γ φ s l vs→l[i]? =some x→∃v,vs[i]? =some v∧Rel w γ φ s x v
 | [],_,_,_,_,h=>by simp at h
 |y :: l,vs,0,x,hr,h=>by
  simp only[RelL]at hr;obtain⟨v,vs',rfl,hx,_⟩:=hr;simp at h;subst h;exact⟨v,by simp,hx⟩
 |y :: l,vs,i+1,x,hr,h=>by
  simp only[RelL]at hr;obtain⟨v,vs',rfl,_,hl⟩:=hr;obtain⟨u,hu,ht⟩:=RelL.get hl (i:=i) (by simpa using h);exact⟨u,by simpa using hu,ht⟩
theorem RelL.len:∀{l:List AV} {vs:List Value},RelL w γ φ s l vs→vs.length=l.length
 | [],_,hr=>by simp only[RelL]at hr;simp [hr]
 |y :: l,vs,hr=>by
  simp only[RelL]at hr;obtain⟨v,vs',rfl,_,hl⟩:=hr;simp [RelL.len hl]
theorem RelL.of_get:∀{l:List AV} {vs:List Value},vs.length=l.length→(∀(i:Nat) (x:AV),l[i]? =some x→∃v,vs[i]? =some v∧Rel w γ φ s x v)→RelL w γ φ s l vs
 | [],vs,hl,_=>by simp only[RelL];exact List.eq_nil_of_length_eq_zero (by simpa using hl)
 |y :: l,[],hl,_=>by simp at hl
 |y :: l,v :: vs,hl,h=>by
  simp only[RelL];refine⟨v,vs,rfl, ?_,RelL.of_get (by simpa using hl) fun i x hx=> ?_⟩
  ·obtain⟨u,hu,hr⟩:=h 0 y (by simp)
   simp at hu;subst hu;exact hr
  ·obtain⟨u,hu,hr⟩:=h (i+1) x (by simpa using hx)
   exact⟨u,by simpa using hu,hr⟩
theorem RelL.append:∀{l l':List AV} {vs vs':List Value},RelL w γ φ s l vs→RelL w γ φ s l' vs'→RelL w γ φ s (l++l') (vs++vs')
 | [],_,_,_,h,h'=>by simp only[RelL]at h;subst h;simpa using h'
 |x :: l,_,_,_,h,h'=>by
  simp only[RelL]at h;obtain⟨v,us,rfl,hx,hl⟩:=h;simp only[List.cons_append,RelL];exact⟨v,_,rfl,hx,RelL.append hl h'⟩
theorem CRel.mono(hK:Kst γ w γ' w')(hL:Live w γ φ s w' γ' φ' s'){k j:Nat}(hT:∀b q,γ b=.r k q→γ' b=.r k q)(hB:∀b q,q≠[]→γ b=.r k q→w'.heap[b]? =w.heap[b]?)
  {av:AV} {v:Value} (h:CRel w γ φ s k j av v):CRel w' γ' φ' s' k j av v:=by
 cases av with
 |tr x=>
  simp only[CRel]at h ⊢;exact Tree.mono (by simp) (fun b q hq hg=>⟨hT b q hg,hB b q hq hg⟩) x v h
 |_=>exact Rel.mono hK hL _ _ (show Rel w γ φ s _ v from h)
mutual
def rn(ρ:Nat→Option Nat):AV→AV
 | .own k o n=>match ρ k with|some k'=>.own k' o n|none=>.any
 | .sub k j=>match ρ k with|some k'=>.sub k' j|none=>.any
 | .ptr k o=>match ρ k with|some k'=>.ptr k' o|none=>.any
 | .sptr k j o=>match ρ k with|some k'=>.sptr k' j o|none=>.any
 | .agg l=>.agg (rnL ρ l)
 | .tup l=>.tup (rnL ρ l)
 | .clo f l=>.clo f (rnL ρ l)
 | .any=>.any | .und=>.und | .nil=>.nil | .d x=>.d x | .rptr l o=>.rptr l o | .tr x=>.tr x | .lv n=>.lv n
def rnL(ρ:Nat→Option Nat):List AV→List AV
 | []=>[]
 |x :: l=>rn ρ x :: rnL ρ l
end
theorem aR(ρ:Nat→Option Nat):∀l,rnL ρ l=l.map (rn ρ)
 | []=>rfl
 |x :: l=>by simp only[rnL,List.map_cons,aR ρ l]
def Lab.rn(ρ:Nat→Option Nat):Lab→Lab
 | .r k p=>match ρ k with|some k'=>.r k' p|none=>.off
 |l=>l
structure Ren(ρ:Nat→Option Nat)(φ:Nat→Nat)(s:St)(φ':Nat→Nat)(s':St):Prop where
 go:∀k k' R,ρ k=some k'→s k=some R→φ' k'=φ k∧s' k'=some { R with cells:=rnL ρ R.cells }
 back:∀k' R',s' k'=some R'→∃k R,ρ k=some k'∧s k=some R
 inj:∀k1 k2 k',ρ k1=some k'→ρ k2=some k'→k1=k2
theorem Ig{ρ:Nat→Option Nat}{b:Nat}(h:Im w γ b):Im w (fun b=>(γ b).rn ρ) b:=⟨h.1,by simp [h.2,Lab.rn]⟩
variable {ρ : Nat → Option Nat}
mutual
theorem Rel.rn(hN:Ren ρ φ s φ' s'):∀(av:AV) (v:Value),Rel w γ φ s av v→Rel w (fun b=>(γ b).rn ρ) φ' s' (rn ρ av) v
 | .any,_,_=>by simp only[Lift.rn,Rel]
 | .und,_,h=>by simpa only[Lift.rn,Rel]using h
 | .nil,_,h=>by simpa only[Lift.rn,Rel]using h
 | .d x,v,h=>by
  simp only[Lift.rn,Rel]at h ⊢;exact Rd.mono (fun b hb=>⟨Ig hb,rfl⟩) x v h
 | .own k off n,v,h=>by
  simp only[Lift.rn];split
  ·rename_i k' hk
   simp only[Rel]at h ⊢;obtain⟨R,hR,h⟩:=h;obtain⟨hφ,hR'⟩:=hN.go k k' R hk hR;refine⟨_,hR', ?_⟩;rcases h with h|⟨c,cur,T,hv,hn,hl,hh,hc⟩
   ·exact .inl h
   ·exact .inr ⟨c,cur,T,by rw[hφ];exact hv,hn,by simp [hφ,hl,Lab.rn,hk],by rw[hφ];exact hh,hc⟩
  ·simp only[Rel]
 | .sub k j,v,h=>by
  simp only[Lift.rn];split
  ·rename_i k' hk
   simp only[Rel]at h ⊢;obtain⟨R,x,cur,T,f,hR,hx,hh,hv⟩:=h;obtain⟨hφ,hR'⟩:=hN.go k k' R hk hR;exact⟨_,x,cur,T,f,hR',by simp [aR,hx,Lift.rn],by rw[hφ];exact hh,hv⟩
  ·simp only[Rel]
 | .ptr k off,v,h=>by
  simp only[Lift.rn];split
  ·rename_i k' hk
   simp only[Rel]at h ⊢;obtain⟨R,hR,hv⟩:=h;obtain⟨hφ,hR'⟩:=hN.go k k' R hk hR;exact⟨_,hR',by rw[hφ];exact hv⟩
  ·simp only[Rel]
 | .sptr k j off,v,h=>by
  simp only[Lift.rn];split
  ·rename_i k' hk
   simp only[Rel]at h ⊢;obtain⟨R,x,cur,T,f,b,n,c,hR,hx,hh,hv,e⟩:=h;obtain⟨hφ,hR'⟩:=hN.go k k' R hk hR;exact⟨_,x,cur,T,f,b,n,c,hR',by simp [aR,hx,Lift.rn],by rw[hφ];exact hh,hv,e⟩
  ·simp only[Rel]
 | .rptr l off,v,h=>by
  simp only[Lift.rn,Rel]at h ⊢;obtain⟨b,o,e,hb,hl⟩:=h;exact⟨b,o,e,Ig hb,RdL.mono (fun b hb=>⟨Ig hb,rfl⟩) l b o hb hl⟩
 | .tr x,_,h=>by simp only[Rel]at h
 | .lv n,v,h=>by simpa only[Lift.rn,Rel]using h
 | .agg l,v,h=>by
  simp only[Lift.rn,Rel]at h ⊢;obtain⟨vs,e,hl⟩:=h;exact⟨vs,e,RelL.rn hN l _ hl⟩
 | .tup l,v,h=>by
  simp only[Lift.rn,Rel]at h ⊢;obtain⟨vs,e,hl⟩:=h;exact⟨vs,e,RelL.rn hN l _ hl⟩
 | .clo f l,v,h=>by
  simp only[Lift.rn,Rel]at h ⊢;obtain⟨vs,e,hl⟩:=h;exact⟨vs,e,RelL.rn hN l _ hl⟩
theorem RelL.rn(hN:Ren ρ φ s φ' s'):∀(l:List AV) (vs:List Value),RelL w γ φ s l vs→RelL w (fun b=>(γ b).rn ρ) φ' s' (rnL ρ l) vs
 | [],_,h=>by simpa only[rnL,RelL]using h
 |x :: l,vs,h=>by
  simp only[rnL,RelL]at h ⊢;obtain⟨v,vs',e,hx,hl⟩:=h;exact⟨v,vs',e,Rel.rn hN x v hx,RelL.rn hN l vs' hl⟩
end
mutual
theorem Tree.rn{k k':Nat}(hk:ρ k=some k'):∀(p:List Nat) (x:D) (v:Value),Tree w γ k p x v→Tree w (fun b=>(γ b).rn ρ) k' p x v
 |_,.int _,_,hr=>by simpa only[Tree]using hr
 |_,.bool _,_,hr=>by simpa only[Tree]using hr
 |_,.str _,_,hr=>by simpa only[Tree]using hr
 |_,.byte _,_,hr=>by simpa only[Tree]using hr
 |p,.sl n l,v,hr=>by
  simp only[Tree]at hr ⊢;obtain⟨A,c,e,hc,hr⟩:=hr;refine⟨A,c,e,hc, ?_⟩;rcases hr with hr|⟨b,cur,T,eA,hg,hh,hl⟩
  ·exact .inl hr
  ·exact .inr ⟨b,cur,T,eA,by simp [hg,Lab.rn,hk],hh,TreeL.rn hk p l _ _ hl⟩
theorem TreeL.rn{k k':Nat}(hk:ρ k=some k'):∀(p:List Nat) (l:List D) (j:Nat) (vs:List Value),TreeL w γ k p j l vs→TreeL w (fun b=>(γ b).rn ρ) k' p j l vs
 |_,[],_,_,_=>by simp only[TreeL]
 |p,x :: l,j,vs,hr=>by
  simp only[TreeL]at hr ⊢;obtain⟨v,vs',e,hx,hl⟩:=hr;exact⟨v,vs',e,Tree.rn hk _ x v hx,TreeL.rn hk p l _ _ hl⟩
end
theorem CRel.rn(hN:Ren ρ φ s φ' s'){k k' j:Nat}(hk:ρ k=some k'){av:AV}{v:Value}(h:CRel w γ φ s k j av v):CRel w (fun b=>(γ b).rn ρ) φ' s' k' j (rn ρ av) v:=by
 cases av with
 |tr x=>
  simp only[CRel,Lift.rn]at h ⊢;exact Tree.rn hk _ x v h
 |own i o n=>
  have:=Rel.rn hN _ _ (show Rel w γ φ s _ v from h);simp only[Lift.rn]at this ⊢;split<;>simp_all [CRel]
 |sub i o=>
  have:=Rel.rn hN _ _ (show Rel w γ φ s _ v from h);simp only[Lift.rn]at this ⊢;split<;>simp_all [CRel]
 |ptr i o=>
  have:=Rel.rn hN _ _ (show Rel w γ φ s _ v from h);simp only[Lift.rn]at this ⊢;split<;>simp_all [CRel]
 |sptr i o n=>
  have:=Rel.rn hN _ _ (show Rel w γ φ s _ v from h);simp only[Lift.rn]at this ⊢;split<;>simp_all [CRel]
 |_=>
  have:=Rel.rn hN _ _ (show Rel w γ φ s _ v from h);simp only[Lift.rn]at this ⊢;exact this
theorem Sim.rn(h:Sim γ φ s w)(hN:Ren ρ φ s φ' s'):Kst γ w (fun b=>(γ b).rn ρ) w∧Sim (fun b=>(γ b).rn ρ) φ' s' w:=by
 have hK:Kst γ w (fun b=>(γ b).rn ρ) w:=⟨rfl,rfl,rfl,Nat.le_refl _,fun b _ hn=>⟨rfl,by
  cases hg:γ b with
  |r k p=>exact absurd hg (hn k p)
  |_=>simp [Lab.rn]⟩,fun _ cur _ _ h=>⟨cur,h,rfl⟩⟩
 refine⟨hK,⟨fun b k p hb=> ?_,fun k' R' hk'=> ?_,h.adm.mono hK⟩⟩
 ·cases hg:γ b with
  |r i q=>exact h.bound b i q hg
  |_=>simp [hg,Lab.rn]at hb
 ·obtain⟨k,R,hk,hR⟩:=hN.back k' R' hk'
  obtain⟨hφ,hR'⟩:=hN.go k k' R hk hR;rw[hk']at hR';obtain rfl:R'={ R with cells:=rnL ρ R.cells }:=by simpa using hR'
  rcases h.root k R hR with h1|⟨cur,T,hh,hg,hl,hcells⟩
  ·exact .inl (by simp [h1,rnL])
  refine .inr ⟨cur,T,by rw[hφ];exact hh,by simp [hφ,hg,Lab.rn,hk],by simpa [aR]using hl,fun j av hav=> ?_⟩
  simp only[aR,List.getElem?_map,zm]at hav;obtain⟨av0,h0,rfl⟩:=hav;obtain⟨v,hv,hr⟩:=hcells j av0 h0;exact⟨v,hv,CRel.rn hN hk hr⟩
end
end Go.Lift
namespace Go.Lift
open Go.RowKit
def upd{α:Type}(f:Nat→α)(k:Nat)(x:α):Nat→α:=fun i=>if i=k then x else f i
theorem aC{α:Type}(f:Nat→α)(k:Nat)(x:α):upd f k x k=x:=by simp [upd]
theorem au{α:Type}(f:Nat→α){k i:Nat}(x:α)(h:i≠k):upd f k x i=f i:=by simp [upd,h]
theorem Ez{γ:Labels}{φ:Nat→Nat}{k k':Nat}(g:γ (φ k)=.r k [])(g':γ (φ k')=.r k' [])(e:φ k=φ k'):k=k':=by
 rw[e,g']at g
 injection g with e1
 exact e1.symm
theorem CRel.of_rel{w:World}{γ:Labels}{φ:Nat→Nat}{s:St}{k j:Nat}{av:AV}{v:Value}(h:Rel w γ φ s av v):CRel w γ φ s k j av v:=by
 cases av with
 |tr x=>simp only[Rel]at h
 |_=>exact h
section
variable {γ : Labels} {φ : Nat → Nat} {s : St} {w : World}
theorem Kst.alloc(γ:Labels)(w:World)(o:Obj)(l:Lab):Kst γ w (upd γ w.heap.size l) (w.alloc o):=
 ⟨rfl,rfl,rfl,by simp,fun b hb _=>⟨Below.heap_alloc _ _ _ hb,au _ _ (by omega)⟩,fun b cur T f h=>by
  have hlt:=(Array.getElem?_eq_some_iff.1 h).1;exact⟨cur,(Below.heap_alloc _ _ _ hlt).trans h,rfl⟩⟩
theorem Sim.alloc(h:Sim γ φ s w){k:Nat}(hk:s k=none)(cur:Array Value)(T:TypeId)(R:Root)(hlen:R.cells.length≤cur.size)
  (hc:∀(j:Nat) (av:AV),R.cells[j]? =some av→∃v,cur[j]? =some v∧Rel w γ φ s av v):
  Live w γ φ s (w.alloc (.cells cur T)) (upd γ w.heap.size (.r k [])) (upd φ k w.heap.size) (upd s k (some R))∧Sim (upd γ w.heap.size (.r k [])) (upd φ k w.heap.size) (upd s k (some R)) (w.alloc (.cells cur T)):=by
 have hK:=Kst.alloc γ w (.cells cur T) (.r k []);have hL:Live w γ φ s (w.alloc (.cells cur T)) (upd γ w.heap.size (.r k [])) (upd φ k w.heap.size) (upd s k (some R)):=by
  intro i Ri hi;have hne:i≠k:=fun e=>by rw[e,hk]at hi;cases hi
  refine⟨au _ _ hne,Ri,by rw[au _ _ hne];exact hi,rfl,id,fun hg=>by rw[au _ _ (by have:=h.bound _ _ _ hg;omega)];exact hg,fun j x hx=>⟨⟨x,hx⟩,fun c c' T f T' f' e e'=> ?_⟩⟩;rw[Below.heap_alloc _ _ _ (Array.getElem?_eq_some_iff.1 e).1,e]at e';simp at e';rw[e'.1]
 refine⟨hL,⟨?_, ?_,h.adm.mono hK⟩⟩
 ·intro b i p hb
  by_cases e:b=w.heap.size
  ·subst e;simp
  ·rw[au _ _ e]at hb
   have:=h.bound b i p hb
   simp;omega
 ·intro i Ri hi
  by_cases e:i=k
  ·subst e
   rw[aC]at hi;obtain rfl:R=Ri:=by simpa using hi
   refine .inr ⟨cur,T, ?_, ?_,hlen,fun j av hav=> ?_⟩
   ·rw[aC];exact heap_alloc_new w _
   ·rw[aC,aC]
   ·obtain⟨v,hv,hr⟩:=hc j av hav
    refine⟨v,hv,CRel.of_rel ?_⟩;have:=Rel.mono hK hL av v hr;exact this
  ·rw[au _ _ e]at hi
   rcases h.root i Ri hi with hroot|⟨cu,T',hh,hg,hl,hcells⟩
   ·exact .inl hroot
   have hlt:=h.bound _ _ _ hg
   refine .inr ⟨cu,T', ?_, ?_,hl,fun j av hav=> ?_⟩
   ·rw[au _ _ e,Below.heap_alloc _ _ _ hlt];exact hh
   ·rw[au _ _ e,au _ _ (by omega)];exact hg
   ·obtain⟨v,hv,hr⟩:=hcells j av hav
    refine⟨v,hv, ?_⟩;have:=CRel.mono hK hL (fun b q hb=>by rw[au _ _ (by have:=h.bound _ _ _ hb;omega)];exact hb) (fun b q _ hb=>Below.heap_alloc _ _ _ (h.bound _ _ _ hb)) hr;exact this
theorem Sim.kept{γ':Labels}{w':World}(h:Sim γ φ s w)(hK:Kst γ w γ' w')(hR:∀b k p,γ b=.r k p→γ' b=γ b∧w'.heap[b]? =w.heap[b]?)(hb':∀b k p,γ' b=.r k p→b<w'.heap.size):
  Live w γ φ s w' γ' φ s∧Sim γ' φ s w':=by
 have hL:Live w γ φ s w' γ' φ s:=by
  intro i Ri hi;refine⟨rfl,Ri,hi,rfl,id,fun hg=>(hR _ _ _ hg).1.trans hg,fun j x hx=>⟨⟨x,hx⟩,fun c c' T f T' f' e e'=> ?_⟩⟩;rcases h.root i Ri hi with h0|⟨c0,T0,hh0,hg,hl0⟩
  ·simp [h0]at hx
  rw[(hR _ _ _ hg).2,e]at e'
  simp at e';rw[e'.1]
 refine⟨hL,⟨hb',fun i Ri hi=> ?_,h.adm.mono hK⟩⟩;rcases h.root i Ri hi with hroot|⟨cu,T',hh,hg,hl,hcells⟩
 ·exact .inl hroot
 refine .inr ⟨cu,T',(hR _ _ _ hg).2.trans hh,(hR _ _ _ hg).1.trans hg,hl,fun j av hav=> ?_⟩
 obtain⟨v,hv,hr⟩:=hcells j av hav;refine⟨v,hv, ?_⟩;have:=CRel.mono hK hL (fun b q hb=>(hR _ _ _ hb).1.trans hb) (fun b q _ hb=>(hR _ _ _ hb).2) hr;exact this
theorem Sim.drew(h:Sim γ φ s w):Sim γ φ s w.drew:=(h.kept (Kst.drew γ w) (fun _ _ _ _=>⟨rfl,rfl⟩) h.bound).2
theorem Sim.allocIm(h:Sim γ φ s w)(o:Obj):Live w γ φ s (w.alloc o) (upd γ w.heap.size .im) φ s∧Sim (upd γ w.heap.size .im) φ s (w.alloc o):=
 h.kept (Kst.alloc γ w o .im) (fun b k p hb=>by
   have:=h.bound b k p hb;exact⟨au _ _ (by omega),Below.heap_alloc _ _ _ this⟩) (fun b k p hb=>by
   by_cases e:b=w.heap.size
   ·subst e;rw[aC]at hb;cases hb
   ·rw[au _ _ e]at hb;have:=h.bound b k p hb;simp;omega)
theorem Sim.setRow(h:Sim γ φ s w){k:Nat}{R:Root}(hR:s k=some R){cur:Array Value}{T:TypeId}(hh:w.heap[φ k]? =some (.cells cur T (0,0)))(hg:γ (φ k)=.r k [])
  (cur':Array Value) (hs:cur'.size=cur.size) (cs:List AV) (hl:cs.length≤cur.size)
  (hc:∀(j:Nat) (av:AV),cs[j]? =some av→∃v,cur'[j]? =some v∧CRel w γ φ s k j av v)
  (htr:∀(j:Nat) (x:D),R.cells[j]? =some (.tr x)→(∃x',cs[j]? =some (.tr x'))∧cur'[j]? =cur[j]?):
  Kst γ w γ (w.setRow (φ k) cur')∧Live w γ φ s (w.setRow (φ k) cur') γ φ (upd s k (some { R with cells:=cs }))∧
   Sim γ φ (upd s k (some { R with cells:=cs })) (w.setRow (φ k) cur'):=by
 have hset:(w.setRow (φ k) cur').heap[φ k]? =some (.cells cur' T (0,0)):=setRow_heap w _ cur cur' T _ hh;have hoth:∀b,b≠φ k→(w.setRow (φ k) cur').heap[b]? =w.heap[b]? :=fun b hb=>setRow_other w _ _ _ hb
 have hK:Kst γ w γ (w.setRow (φ k) cur'):=by
  refine⟨rfl,rfl,rfl,by simp,fun b _ hn=>⟨hoth b (fun e=>hn k [] (e ▸ hg)),rfl⟩,fun b cu T' f e=> ?_⟩;by_cases hb:b=φ k
  ·subst hb
   rw[hh]at e;simp at e;obtain⟨rfl,rfl,rfl⟩:=e;exact⟨_,hset,hs⟩
  ·exact⟨cu,(hoth b hb).trans e,rfl⟩
 have hL:Live w γ φ s (w.setRow (φ k) cur') γ φ (upd s k (some { R with cells:=cs })):=by
  intro i Ri hi;by_cases e:i=k
  ·subst e
   rw[hR]at hi;obtain rfl:R=Ri:=by simpa using hi
   refine⟨rfl,_,aC _ _ _,rfl,id,id,fun j' x hx=> ?_⟩;refine⟨(htr j' x hx).1,fun c c' T1 f1 T2 f2 e1 e2=> ?_⟩;rw[hh]at e1;rw[hset]at e2;simp at e1 e2;rw[← e1.1, ← e2.1]
   exact(htr j' x hx).2
  ·refine⟨rfl,Ri,by rw[au _ _ e];exact hi,rfl,id,id,fun j' x hx=>⟨⟨x,hx⟩,fun c c' T1 f1 T2 f2 e1 e2=> ?_⟩⟩
   rcases h.root i Ri hi with h0|⟨c0,T0,hh0,hgi,hl0⟩
   ·simp [h0]at hx
   rw[hoth _ (fun e'=>e (Ez hgi hg e')),e1]at e2
   simp at e2;rw[e2.1]
 refine⟨hK,hL,⟨fun b i p hb=>by have:=h.bound b i p hb;simpa using this,fun i Ri hi=> ?_,h.adm.mono hK⟩⟩;have hmono:∀{i j':Nat} {a:AV} {u:Value},CRel w γ φ s i j' a u→CRel (w.setRow (φ k) cur') γ φ (upd s k (some { R with cells:=cs })) i j' a u:=by
  intro i j' a u hr;exact CRel.mono hK hL (fun b q hb=>hb) (fun b q hq hb=>hoth b (fun e=>hq (by rw[e,hg]at hb;injection hb with _ e2;exact e2.symm))) hr
 by_cases e:i=k
 ·subst e
  rw[aC]at hi;obtain rfl:{ R with cells:=cs }=Ri:=by simpa using hi
  refine .inr ⟨_,T,hset,hg,by simpa [hs]using hl,fun j' a ha=> ?_⟩;obtain⟨u,hu,hr⟩:=hc j' a ha;exact⟨u,hu,hmono hr⟩
 ·rw[au _ _ e]at hi
  rcases h.root i Ri hi with hroot|⟨cu,T',hh',hg',hl',hcells'⟩
  ·exact .inl hroot
  refine .inr ⟨cu,T',(hoth _ (fun e'=>e (Ez hg' hg e'))).trans hh',hg',hl',fun j' a ha=> ?_⟩
  obtain⟨u,hu,hr⟩:=hcells' j' a ha;exact⟨u,hu,hmono hr⟩
end
end Go.Lift
namespace Go.Lift
open Go.RowKit
abbrev Sto:=List (Option Root)
def at_(σ:Sto):St:=fun k=>(σ[k]?).join
def over(τ:St)(k0:Nat)(news:Sto):St:=fun k=>if k0≤k∧k<k0+news.length then (news[k-k0]?).join else τ k
def Does(P:Program)(f:FuncId)(args:List AV)(σ0:Sto)(res:AV)(σ1:Sto):Prop:=
 ∀γ φ w vals,Sim γ φ (at_ σ0) w→RelL w γ φ (at_ σ0) args vals→
  Calls P f vals.toArray w fun e w'=>∃v γ' φ',e=.returned v∧Kst γ w γ' w'∧(∀k R,at_ σ0 k=some R→R.g=false→φ' k=φ k∧(γ (φ k)=.r k []→γ' (φ k)=.r k []))∧Sim γ' φ' (at_ σ1) w'∧Rel w' γ' φ' (at_ σ1) res v
inductive O where
 |t (n:Nat)
 |c (v:AV)
 deriving Inhabited
def O.ev(env:List AV):O→AV
 | .t n=>env.getD n .any
 | .c v=>v
inductive I where
 |mv (x:O)
 |pick (c a b:O)
 |box (x:O)
 |zer (z:List AV)
 |agg (z:List AV) (ps:List (Nat × Nat × O))
 |mksl (e n:Nat) (z:List AV) (ps:List (Nat × Nat × O))
 |ld (a:O)
 |ldn (n:Nat) (a:O)
 |st (n:Nat) (a x:O)
 |bin (op:BinOp) (x y:O)
 |binb (neg:Bool) (x y:O)
 |not (x:O)
 |neg (x:O)
 |make (e bytes:Nat) (z:List AV) (l c:O)
 |slc (e:Nat) (x:O) (lo hi:Option O)
 |fld (off:Nat) (x:O)
 |idx (e:Nat) (x i:O)
 |aix (e n:Nat) (x i:O)
 |ixa (n:Nat) (x i:O)
 |nck (x:O)
 |fdv (off n:Nat) (ag:Bool) (x:O)
 |eqs (neg:Bool) (n:Nat) (x y:O)
 |isn (neg:Bool) (x y:O)
 |ext (i:Nat) (x:O)
 |call (f:FuncId) (args:List O)
 |mkc (f:Nat) (caps:List O)
 |cvl (x:O) (args:List O)
 |app (e bytes:Nat) (z:List AV) (s x:O)
 |len (x:O)
 |lens (x:O)
 |mnx (isMax:Bool) (x y:O)
 |cat (x y:O)
 |eqst (neg:Bool) (x y:O)
 |cvt (toByte:Bool) (x:O)
 |bst (x:O)
 |shk (n:Nat) (x:O)
 |copy (e:Nat) (d s:O)
 |clear (e:Nat) (z:List AV) (x:O)
structure Ins where
 dst:Option Nat
 g:Option (Nat × Bool)
 op:I
abbrev iM(d s:Nat):Ins:=⟨some d,none,.mv (.t s)⟩
abbrev iI(d:Nat)(o:I):Ins:=⟨some d,none,o⟩
abbrev iG(d s:Nat)(b:Bool)(o:I):Ins:=⟨some d,some (s,b),o⟩
abbrev jM(a:Nat):I:=.mv (.t a)
abbrev jL(a:Nat):I:=.ld (.t a)
abbrev jN(n a:Nat):I:=.ldn n (.t a)
abbrev jE(a:Nat):I:=.len (.t a)
abbrev jF(n a:Nat):I:=.fld n (.t a)
abbrev jX(n a:Nat):I:=.ext n (.t a)
abbrev jO(a:Nat):I:=.not (.t a)
abbrev jP(a:Nat):I:=.nck (.t a)
abbrev jJ(e a b:Nat):I:=.idx e (.t a) (.t b)
abbrev jA(f a:Nat):I:=.call f [.t a]
abbrev jD(f a b:Nat):I:=.call f [.t a,.t b]
abbrev jH(f a b c:Nat):I:=.call f [.t a,.t b,.t c]
abbrev jB(o:BinOp)(a b:Nat):I:=.bin o (.t a) (.t b)
abbrev jK(o:BinOp)(a:Nat)(n:Int):I:=.bin o (.t a) (.c (.d (.int n)))
abbrev jR(a b:Nat):I:=.pick (.t a) (.c (.d (.bool true))) (.t b)
abbrev jS(a b:Nat):I:=.pick (.t a) (.t b) (.c (.d (.bool false)))
abbrev jY  :I:=.mv (.c .nil)
abbrev jC  :I:=.zer [.d (.int 0),.nil]
abbrev jG  :I:=.zer [.nil,.nil,.nil]
abbrev jI  :I:=.zer [.d (.int 0),.d (.int 0),.d (.int 0)]
abbrev jZ(n:Int):I:=.mv (.c (.d (.int n)))
abbrev jV(b:Bool):I:=.mv (.c (.d (.bool b)))
abbrev jW(n a b:Nat):I:=.st n (.t a) (.t b)
abbrev oK(n:Int):O:=.c (.d (.int n))
abbrev iU(d:Nat)(a:Nat):Ins:=⟨some d,none,.ld (.t a)⟩
abbrev iN(d:Nat)(n a:Nat):Ins:=⟨some d,none,.ldn n (.t a)⟩
abbrev iE(d:Nat)(a:Nat):Ins:=⟨some d,none,.len (.t a)⟩
abbrev iF(d:Nat)(n a:Nat):Ins:=⟨some d,none,.fld n (.t a)⟩
abbrev iX(d:Nat)(n a:Nat):Ins:=⟨some d,none,.ext n (.t a)⟩
abbrev iA(d:Nat)(f a:Nat):Ins:=⟨some d,none,.call f [.t a]⟩
abbrev iD(d:Nat)(f a b:Nat):Ins:=⟨some d,none,.call f [.t a,.t b]⟩
abbrev iJ(d:Nat)(e a b:Nat):Ins:=⟨some d,none,.idx e (.t a) (.t b)⟩
abbrev iB(d:Nat)(o:BinOp)(a b:Nat):Ins:=⟨some d,none,.bin o (.t a) (.t b)⟩
abbrev iK(d:Nat)(o:BinOp)(a:Nat)(n:Int):Ins:=⟨some d,none,.bin o (.t a) (.c (.d (.int n)))⟩
abbrev iO(d:Nat)(a:Nat):Ins:=⟨some d,none,.not (.t a)⟩
abbrev iP(d:Nat)(a:Nat):Ins:=⟨some d,none,.nck (.t a)⟩
abbrev iR(d:Nat)(a b:Nat):Ins:=⟨some d,none,.pick (.t a) (.c (.d (.bool true))) (.t b)⟩
abbrev iH(d s:Nat)(o:I):Ins:=⟨some d,some (s,false),o⟩
abbrev iS(n a b:Nat):Ins:=⟨none,none,.st n (.t a) (.t b)⟩
inductive C where
 |skip
 |reg (l:List Ins)
 |draw (pre tail:List Ins)
 |drawK (pre:List (Ins × List Nat)) (tail:List Ins)
 |drawW (pre qs mid tail:List Ins)
 |seq (a b:C)
 |cond (c:O) (a b:C)
 |block (id:Nat) (b:C)
 |loop (b:C)
 |exit (id:Nat)
 |ret
 |gh (a:C)
abbrev rQ(l:List Ins)(c:C):C:=.seq (.reg l) c
abbrev rR(l:List Ins):C:=.seq (.reg l) .ret
def C.erase:C→C
 | .seq a b=>.seq a.erase b.erase
 | .cond c a b=>.cond c a.erase b.erase
 | .block id b=>.block id b.erase
 | .loop b=>.loop b.erase
 | .gh a=>a.erase
 |c=>c
def nj:AV→Option (List AV)
 | .agg l=>some l
 | .nil=>some [.nil]
 | .d x=>some [.d x]
 | .own k o n=>some [.own k o n]
 | .ptr k o=>some [.ptr k o]
 | .clo f l=>some [.clo f l]
 |_=>none
def cv(k j:Nat):AV→AV
 | .tr _=>.sub k j
 |av=>av
def cvL(k:Nat):Nat→List AV→List AV
 |_,[]=>[]
 |j,x :: l=>cv k j x :: cvL k (j+1) l
def nB(ev:O→AV):List AV→List (Nat × Nat × O)→Option (List AV)
 |cells,[]=>some cells
 |cells,(off,n,x) :: ps=>
  match nj (ev x)with
  |some l=>if l.length=n∧off+n≤cells.length then nB ev (cells.take off++l++cells.drop (off+n)) ps else none
  |none=>none
def reps(n:Nat)(z:AV):List AV:=List.replicate n z
def sX:List AV→Option (List Int)
 | []=>some []
 | .d (.int x) :: l=>(sX l).map (x :: ·)
 |_ :: _=>none
def cl(n:Nat)(z:List AV):List AV:=(List.replicate n z).flatten
def tt:AV→Option D
 | .d x=>some x
 | .tr x=>some x
 | .nil=>some (.sl 0 [])
 |_=>none
def cB:List AV→Option (List D)
 | []=>some []
 |x :: l=>match tt x,cB l with
  |some y,some m=>some (y :: m)
  |_,_=>none
def exp1(s:St):AV→Option D
 | .d x=>some x
 | .nil=>some (.sl 0 [])
 | .own k off n=>match s k with
  |some R=>(cB ((R.cells.drop off).take (n*R.e))).map (.sl n)
  |none=>none
 | .sub k j=>match s k with
  |some R=>match R.cells[j]? with
   |some (.tr x)=>some x
   |_=>none
  |none=>none
 |_=>none
def expC(s:St):List AV→Option (List AV)
 | []=>some []
 |x :: l=>match exp1 s x,expC s l with
  |some y,some m=>some (.d y :: m)
  |_,_=>none
def xZ(s:St):AV→Option D
 | .tr y=>some y
 |x=>exp1 s x
def d8(s:St):List AV→Option (List D)
 | []=>some []
 |x :: l=>match xZ s x,d8 s l with
  |some y,some m=>some (y :: m)
  |_,_=>none
def expA(s:St):AV→Option AV
 | .agg l=>(expC s l).map .agg
 | .ptr k off=>match s k with
  |some R=>match d8 s R.cells with
   |some l=>if l.isEmpty=true then none else some (.rptr l off)
   |none=>none
  |none=>none
 | .rptr l off=>some (.rptr l off)
 |x=>(exp1 s x).map .d
def expL(s:St):List AV→Option (List AV)
 | []=>some []
 |x :: l=>match expA s x,expL s l with
  |some y,some m=>some (y :: m)
  |_,_=>none
mutual
def plain:AV→Bool
 | .d _=>true
 | .nil=>true
 | .agg l=>dK l
 |_=>false
def dK:List AV→Bool
 | []=>true
 |x :: l=>plain x&&dK l
end
mutual
def scal:AV→Bool
 | .d (.sl ..)=>false
 | .rptr .. =>false
 | .agg l=>i8 l
 | .tup l=>i8 l
 | .clo _ l=>i8 l
 |_=>true
def i8:List AV→Bool
 | []=>true
 |x :: l=>scal x&&i8 l
end
def kx:Sto→Bool
 | []=>true
 |some R :: l=>i8 R.cells&&kx l
 |none :: l=>kx l
def sh(k0:Nat)(k:Nat):Option Nat:=some (k+k0)
def shS(k0:Nat)(σ:Sto):Sto:=σ.map (Option.map fun R=>{ R with cells:=rnL (sh k0) R.cells })
def hH:List AV→Option (List AV)
 | []=>some []
 | .d x :: l=>(hH l).map (.d x :: ·)
 | .nil :: l=>(hH l).map (.nil :: ·)
 | .own k o n :: l=>(hH l).map (.own k o n :: ·)
 | .ptr k o :: l=>(hH l).map (.ptr k o :: ·)
 |_ :: _=>none
def srcA(s:St)(m:Nat):AV→Option (List AV)
 | .nil=>some []
 | .d (.sl _ l)=>if m≤l.length then some ((l.take m).map .d) else none
 | .own k off _=>match s k with
  |some R=>if off+m≤R.cells.length then hH ((R.cells.drop off).take m) else none
  |none=>none
 |_=>none
def lenA(s:St):AV→Option Nat
 | .nil=>some 0
 | .d (.sl n _)=>some n
 | .own _ _ n=>some n
 | .lv n=>some n
 | .sub k j=>match s k with
  |some R=>match R.cells[j]? with
   |some (.tr (.sl n _))=>some n
   |_=>none
  |none=>none
 |_=>none
def wC(zs:List Int):ByteArray:=zs.foldl (fun r n=>r.push (UInt8.ofNat n.toNat)) ByteArray.empty
def p9:List AV→Option (List Int)
 | []=>some []
 | .d (.byte n) :: l=>(p9 l).map (n :: ·)
 |_ :: _=>none
def binA(op:BinOp)(a b:Int)(K:AV→Prop):Prop:=
 match op with
 | .add=>K (.d (.int (IntKind.i64.wrap (a+b))))
 | .sub=>K (.d (.int (IntKind.i64.wrap (a-b))))
 | .mul=>K (.d (.int (IntKind.i64.wrap (a*b))))
 | .quo=>b≠0∧K (.d (.int (IntKind.i64.wrap (a.tdiv b))))
 | .rem=>b≠0∧K (.d (.int (a.tmod b)))
 | .and=>K (.d (.int (IntKind.i64.wrap (BitVec.ofInt 64 a&&& BitVec.ofInt 64 b).toNat)))
 | .or=>K (.d (.int (IntKind.i64.wrap (BitVec.ofInt 64 a||| BitVec.ofInt 64 b).toNat)))
 | .xor=>K (.d (.int (IntKind.i64.wrap (BitVec.ofInt 64 a ^^^ BitVec.ofInt 64 b).toNat)))
 | .andNot=>K (.d (.int (IntKind.i64.wrap (BitVec.ofInt 64 a&&& ~~~ BitVec.ofInt 64 b).toNat)))
 | .shl=>0≤b∧K (.d (.int (IntKind.i64.wrap (a*2 ^ (min b.toNat 64)))))
 | .shr=>0≤b∧K (.d (.int (a.fdiv (2 ^ (min b.toNat 64)))))
 | .eql=>K (.d (.bool (a==b)))
 | .neq=>K (.d (.bool (a !=b)))
 | .lss=>K (.d (.bool (decide (a<b))))
 | .leq=>K (.d (.bool (decide (a≤b))))
 | .gtr=>K (.d (.bool (decide (a>b))))
 | .geq=>K (.d (.bool (decide (a≥b))))
def optB(ev:O→AV)(x:Option O)(dflt:Int):Option Int:=
 match x with
 |none=>some dflt
 |some x=>match ev x with
  | .d (.int i)=>some i
  |_=>none
mutual
def idsA:AV→List Nat
 | .own k _ _=>[k]
 | .sub k _=>[k]
 | .ptr k _=>[k]
 | .sptr k _ _=>[k]
 | .agg l=>idsL l
 | .tup l=>idsL l
 | .clo _ l=>idsL l
 |_=>[]
def idsL:List AV→List Nat
 | []=>[]
 |x :: l=>idsA x++idsL l
end
def aP(k:Nat):List Nat→Option Nat
 | []=>none
 |x :: l=>if x=k then some 0 else (aP k l).map (· +1)
def CI:AV→Bool
 | .d _=>true
 | .nil=>true
 | .any=>true
 |_=>false
def kK:AV→Bool
 | .d (.sl ..)=>false
 | .d _=>true
 | .nil=>true
 | .any=>true
 |_=>false
def rw1(s:St)(M:List Nat):AV→Option AV
 | .own k o n=>match aP k M with
  |some i=>some (.own i o n)
  |none=>(exp1 s (.own k o n)).map .d
 | .ptr k o=>(aP k M).map (.ptr · o)
 | .sub _ _=>none
 |x=>(exp1 s x).map .d
def rwC(s:St)(M:List Nat):List AV→Option (List AV)
 | []=>some []
 |x :: l=>match rw1 s M x,rwC s M l with
  |some y,some m=>some (y :: m)
  |_,_=>none
def rwA(s:St)(M:List Nat):AV→Option AV
 | .agg l=>(rwC s M l).map .agg
 |x=>rw1 s M x
def rwL(s:St)(M:List Nat):List AV→Option (List AV)
 | []=>some []
 |x :: l=>match rwA s M x,rwL s M l with
  |some y,some m=>some (y :: m)
  |_,_=>none
def vwOk:Sto→Bool
 | []=>true
 |some R :: l=> !R.g&&R.cells.all kK&&vwOk l
 |none :: _=>false
def tz(P:Program)(f:Nat):Bool:=match P.funcs[f]? with
 |some fn=>fn.body.isSome&& !(fn.name== "runtime.NumGoroutine")
 |none=>false
def gI(P:Program)(s:St)(ev:O→AV)(k0:Nat)(i:I)(K:AV→Sto→Prop):Prop:=
 match i with
 | .mv x=>K (ev x) []
 | .pick c a b=>match ev c with
  | .d (.bool t)=>if t=true then K (ev a) [] else K (ev b) []
  |_=>False
 | .box x=>match nj (ev x)with
  |some l=>K (.ptr k0 0) [some ⟨0,false,l⟩]
  |none=>False
 | .zer z=>K (.ptr k0 0) [some ⟨0,false,z⟩]
 | .agg z ps=>match nB ev z ps with
  |some l=>K (.agg l) []
  |none=>False
 | .mksl e n z ps=>match nB ev (cl n z) ps with
  |some l=>K (.own k0 0 n) [some ⟨e,true,l⟩]
  |none=>False
 | .ld a=>match ev a with
  | .ptr k off=>match s k with
   |some R=>match R.cells[off]? with
    |some av=>K (cv k off av) []
    |none=>False
   |none=>False
  | .rptr l off=>match l[off]? with
   |some x=>K (.d x) []
   |none=>False
  | .sptr k j off=>match s k with
   |some R=>match R.cells[j]? with
    |some (.tr (.sl _ l))=>match l[off]? with
     |some (.int x)=>K (.d (.int x)) []
     |some (.bool x)=>K (.d (.bool x)) []
     |_=>False
    |_=>False
   |none=>False
  |_=>False
 | .ldn n a=>match ev a with
  | .ptr k off=>match s k with
   |some R=>off+n≤R.cells.length∧K (.agg (cvL k off ((R.cells.drop off).take n))) []
   |none=>False
  | .rptr l off=>off+n≤l.length∧K (.agg (((l.drop off).take n).map .d)) []
  |_=>False
 | .bin op x y=>match ev x,ev y with
  | .d (.int a),.d (.int b)=>binA op a b fun r=>K r []
  |_,_=>False
 | .binb n x y=>match ev x,ev y with
  | .d (.bool a),.d (.bool b)=>K (.d (.bool (n ^^ (a==b)))) []
  |_,_=>False
 | .cat x y=>match ev x,ev y with
  | .d (.str a),.d (.str b)=>a.size+b.size≤9223372036854775807∧K (.d (.str (a++b))) []
  |_,_=>False
 | .eqst n x y=>match ev x,ev y with
  | .d (.str a),.d (.str b)=>K (.d (.bool (n ^^ (a.toList==b.toList)))) []
  |_,_=>False
 | .cvt b x=>match ev x with
  | .d (.byte n)=>b=false∧K (.d (.int (IntKind.i64.wrap n))) []
  | .d (.int n)=>b=true∧K (.d (.byte (IntKind.u8.wrap n))) []
  |_=>False
 | .shk n x=>match ev x with
  | .d (.int a)=>K (.d (.int (a.fdiv (2 ^ (min n 64))))) []
  |_=>False
 | .bst x=>match lenA s (ev x)with
  |some m=>match srcA s m (ev x)with
   |some l=>match p9 l with
    |some zs=>K (.d (.str (wC zs))) []
    |none=>False
   |none=>False
  |none=>False
 | .not x=>match ev x with
  | .d (.bool a)=>K (.d (.bool (!a))) []
  |_=>False
 | .neg x=>match ev x with
  | .d (.int a)=>K (.d (.int (IntKind.i64.wrap (0-a)))) []
  |_=>False
 | .make e bytes z l c=>match ev l,ev c with
  | .d (.int l),.d (.int c)=>(0≤l∧l≤c∧bytes*c≤281474976710656)∧K (.own k0 0 l.toNat) [some ⟨e,true,cl l.toNat z⟩]
  |_,_=>False
 | .slc e x lo hi=>match ev x with
  | .own k off n=>match optB ev lo 0,optB ev hi n,s k with
   |some l,some h,some R=>(0≤l∧l≤h∧h≤n)∧(R.g=true→R.e=e)∧K (if l=0∨l<h then .own k (off+l.toNat*e) (h-l).toNat else .d (.sl 0 [])) []
   |_,_,_=>False
  | .d (.sl n cs)=>match optB ev lo 0,optB ev hi n with
   |some l,some h=>(0≤l∧l≤h∧h≤n)∧K (.d (.sl (h-l).toNat ((cs.drop (l.toNat*e)).take ((h-l).toNat*e)))) []
   |_,_=>False
  | .nil=>match optB ev lo 0,optB ev hi 0 with
   |some l,some h=>(l=0∧h=0)∧K .nil []
   |_,_=>False
  |_=>False
 | .fld off x=>match ev x with
  | .ptr k o=>K (.ptr k (o+off)) []
  | .rptr l o=>K (.rptr l (o+off)) []
  |_=>False
 | .idx e x i=>match ev x,ev i with
  | .own k off n,.d (.int i)=>(0≤i∧i<n)∧K (.ptr k (off+i.toNat*e)) []
  | .d (.sl n l),.d (.int i)=>(0≤i∧i<n)∧K (.rptr l (i.toNat*e)) []
  | .sub k j,.d (.int i)=>match s k with
   |some R=>match R.cells[j]? with
    |some (.tr (.sl n _))=>(0≤i∧i<n)∧K (.sptr k j (i.toNat*e)) []
    |_=>False
   |none=>False
  |_,_=>False
 | .aix e n x i=>match ev x,ev i with
  | .ptr k o,.d (.int i)=>(0≤i∧i<n)∧K (.ptr k (o+i.toNat*e)) []
  | .rptr l o,.d (.int i)=>(0≤i∧i<n)∧K (.rptr l (o+i.toNat*e)) []
  |_,_=>False
 | .ixa n x i=>match ev x,ev i with
  | .agg l,.d (.int i)=>match l[i.toNat]? with
   |some y=>(0≤i∧i<n)∧K y []
   |none=>False
  |_,_=>False
 | .nck x=>match ev x with
  | .ptr k o=>K (.ptr k o) []
  | .rptr l o=>K (.rptr l o) []
  | .sptr k j o=>K (.sptr k j o) []
  |_=>False
 | .fdv off n ag x=>match ev x with
  | .agg l=>if ag=true then off+n≤l.length∧K (.agg ((l.drop off).take n)) [] else match l[off]? with
   |some y=>K y []
   |none=>False
  |_=>False
 | .eqs neg n x y=>match ev x,ev y with
  | .agg l,.agg m=>match sX l,sX m with
   |some a,some b=>(a.length=n∧b.length=n)∧K (.d (.bool (neg ^^ decide (a=b)))) []
   |_,_=>False
  |_,_=>False
 | .isn neg x y=>match ev x,ev y with
  | .nil,.nil=>K (.d (.bool (!neg))) []
  | .own _ _ n,.nil=>0<n∧K (.d (.bool neg)) []
  |_,_=>False
 | .ext i x=>match ev x with
  | .tup l=>match l[i]? with
   |some y=>K y []
   |none=>False
  |_=>False
 | .call f args=>(∃ds res σ1,expL s (args.map ev)=some ds∧Does P f ds [] res σ1∧((dK (args.map ev)||(scal res&&kx σ1))=true)∧K (rn (sh k0) res) (shS k0 σ1))∨
   ∃(M:List Nat) (σv:Sto) (ds:List AV) (res:AV),M.Nodup∧rwL s M (args.map ev)=some ds∧M.map s=σv∧vwOk σv=true∧(M.all (idsL (args.map ev)).contains)=true∧Does P f ds σv res σv∧scal res=true∧K (rn (fun i=>M[i]?) res) []
 | .mkc f caps=>K (.clo f (caps.map ev)) []
 | .cvl x args=>match ev x with
  | .clo f l=>tz P f=true∧∃ds res σ1,expL s (args.map ev++l)=some ds∧Does P f ds [] res σ1∧((dK (args.map ev++l)||(scal res&&kx σ1))=true)∧K (rn (sh k0) res) (shS k0 σ1)
  |_=>False
 | .app e bytes _ s' x=>match ev s' with
  | .nil=>match lenA s (ev x)with
   |some m=>match srcA s (m*e) (ev x)with
    |some l=>bytes*m≤140737488355328∧K (.own k0 0 m) [some ⟨e,true,l⟩]
    |none=>False
   |none=>False
  |_=>False
 | .len x=>match lenA s (ev x)with
  |some n=>K (.d (.int n)) []
  |none=>False
 | .lens x=>match ev x with
  | .d (.str b)=>K (.d (.int b.size)) []
  |_=>False
 | .mnx m x y=>match ev x,ev y with
  | .d (.int a),.d (.int b)=>K (.d (.int (if m=true then (if a<b then b else a) else (if b<a then b else a)))) []
  |_,_=>False
 |_=>False
def okC:AV→Bool
 | .d _=>true
 | .nil=>true
 | .own .. =>true
 | .ptr .. =>true
 | .clo .. =>true
 |_=>false
def trB:AV→Bool
 | .tr _=>false
 |_=>true
def rwS(σ:Sto)(M:List Nat):Sto:=M.map fun k=>(at_ σ k).map fun R=>{ R with g:=false }
def rwIn(σ:Sto)(M:List Nat):Bool:=M.all fun k=>match at_ σ k with
 |some R=>R.cells.all CI
 |none=>false
def v7(σ:Sto)(σ1:Sto):List Nat→Nat→Bool
 | [],_=>true
 |k :: M,i=>(match at_ σ k,at_ σ1 i with
  |some R,some R1=>R1.cells.length==R.cells.length&&R1.e==R.e&&R1.cells.all kK
  |_,_=>false)&&v7 σ σ1 M (i+1)
def ol:Sto→Bool
 | []=>true
 |some R :: l=>R.cells.all kK&&ol l
 |none :: l=>ol l
def gr(σ1:Sto)(fz:Bool):List Nat→Nat→Sto→Sto
 | [],_,σ=>σ
 |k :: M,i,σ=>gr σ1 fz M (i+1) (match at_ σ k,at_ σ1 i with
  |some R,some R1=>σ.set k (some { R with g:=R.g&& !fz,cells:=R1.cells })
  |_,_=>σ)
def rwN(M:List Nat)(fz:Bool)(k0 i:Nat):Option Nat:=if i<M.length then (if fz then M[i]? else none) else some (k0+(i-M.length))
def fg(k:Nat)(i:Nat):Option Nat:=if i=k then none else some i
mutual
def cgA(gv:List Nat)(M:List Nat):AV→AV
 | .own k o n=>if gv.contains k=true then .any else .own k o n
 | .ptr k o=>if gv.contains k=true then .any else .ptr k o
 | .sub k j=>if aP k M=none then .sub k j else .any
 | .sptr k j o=>if aP k M=none then .sptr k j o else .any
 | .agg l=>.agg (cgL gv M l)
 | .tup l=>.tup (cgL gv M l)
 | .clo f l=>.clo f (cgL gv M l)
 | .any=>.any | .und=>.und | .nil=>.nil | .d x=>.d x | .rptr l o=>.rptr l o | .tr x=>.tr x | .lv n=>.lv n
def cgL(gv:List Nat)(M:List Nat):List AV→List AV
 | []=>[]
 |x :: l=>cgA gv M x :: cgL gv M l
end
theorem p6(gv:List Nat)(M:List Nat):∀l,cgL gv M l=l.map (cgA gv M)
 | []=>rfl
 |x :: l=>by simp only[cgL,List.map_cons,p6 gv M l]
inductive Fg where
 |no
 |one (k:Nat)
 |call (gv:List Nat) (M:List Nat)
def apV(k:Nat):AV→AV
 | .own j o n=>if j=k then .lv n else .own j o n
 | .any=>.any | .und=>.und | .nil=>.nil | .d x=>.d x | .rptr l o=>.rptr l o | .tr x=>.tr x | .lv n=>.lv n
 | .sub i j=>rn (fg k) (.sub i j)
 | .ptr i o=>rn (fg k) (.ptr i o)
 | .sptr i j o=>rn (fg k) (.sptr i j o)
 | .agg l=>rn (fg k) (.agg l)
 | .tup l=>rn (fg k) (.tup l)
 | .clo f l=>rn (fg k) (.clo f l)
def apVL(k:Nat):List AV→List AV
 | []=>[]
 |x :: l=>apV k x :: apVL k l
theorem EQ(k:Nat):∀l,apVL k l=l.map (apV k)
 | []=>rfl
 |x :: l=>by simp only[apVL,List.map_cons,EQ k l]
def Fg.ap:Fg→AV→AV
 | .no,x=>x
 | .one k,x=>apV k x
 | .call gv M,x=>cgA gv M x
def cgIn(σ:Sto)(M:List Nat)(gv:List Nat):Sto:=M.map fun k=>(at_ σ k).map fun R=>{ e:=R.e,g:=R.g&&(gv.contains k),cells:=rnL (fun i=>aP i M) R.cells }
def cgNu(M:List Nat)(gv:List Nat)(fz:Bool)(k0 i:Nat):Option Nat:=
 match M[i]? with
 |some k=>if fz=true∨gv.contains k=true then some k else none
 |none=>some (k0+(i-M.length))
def ep(σ1:Sto)(M:List Nat)(gv:List Nat)(fz:Bool)(k0 k:Nat)(R:Root):Root:=
 match aP k M with
 |none=>{ R with cells:=cgL gv M R.cells }
 |some i=>match at_ σ1 i with
  |some R1=>{ e:=R1.e,g:=R.g&&(if gv.contains k=true then R1.g else !fz),cells:=rnL (cgNu M gv fz k0) R1.cells }
  |none=>R
def cgGo(σ1:Sto)(M:List Nat)(gv:List Nat)(fz:Bool)(k0:Nat):Nat→Sto→Sto
 |_,[]=>[]
 |k,none :: l=>none :: cgGo σ1 M gv fz k0 (k+1) l
 |k,some R :: l=>some (ep σ1 M gv fz k0 k R) :: cgGo σ1 M gv fz k0 (k+1) l
def qH(σ1:Sto)(M:List Nat)(gv:List Nat)(fz:Bool)(k0:Nat):Sto:=(σ1.drop M.length).map (Option.map fun R=>{ R with cells:=rnL (cgNu M gv fz k0) R.cells })
def cgOk(σ σ1:Sto)(gv:List Nat):List Nat→Nat→Bool
 | [],_=>true
 |k :: M,i=>(match at_ σ k,at_ σ1 i with
  |some R,some R1=>gv.contains k||R1.e==R.e
  |_,_=>false)&&cgOk σ σ1 gv M (i+1)
def tI(P:Program)(σ:Sto)(ev:O→AV)(i:I)(K:Fg→AV→Sto→Prop):Prop:=
 match i with
 | .st n a x=>match ev a with
  | .ptr k off=>match at_ σ k with
   |some R=>match nj (ev x)with
    |some l=>l.length=n∧l.all okC=true∧off+n≤R.cells.length∧(((R.cells.drop off).take n).all trB)=true∧K .no .und (σ.set k (some { R with cells:=R.cells.take off++l++R.cells.drop (off+n) }))
    |none=>False
   |none=>False
  |_=>False
 | .copy e d s'=>match ev d with
  | .own k off n=>match at_ σ k,lenA (at_ σ) (ev s')with
   |some R,some m=>match srcA (at_ σ) (min m n*e) (ev s')with
    |some l=>off+min m n*e≤R.cells.length∧(((R.cells.drop off).take (min m n*e)).all trB)=true∧
      K .no (.d (.int (min m n:Nat))) (σ.set k (some { R with cells:=R.cells.take off++l++R.cells.drop (off+min m n*e) }))
    |none=>False
   |_,_=>False
  |_=>False
 | .clear e z x=>match ev x with
  | .own k off n=>match at_ σ k with
   |some R=>z.length=e∧off+n*e≤R.cells.length∧(((R.cells.drop off).take (n*e)).all trB)=true∧
     K .no (.tup []) (σ.set k (some { R with cells:=R.cells.take off++cl n z++R.cells.drop (off+n*e) }))
   |none=>False
  |_=>False
 | .app e bytes z s' x=>match ev s' with
  | .own k off n=>match at_ σ k,lenA (at_ σ) (ev x)with
   |some R,some m=>match srcA (at_ σ) (m*e) (ev x)with
    |some l=>R.g=true∧R.e=e∧off=0∧R.cells.length=n*e∧bytes*(n+m)≤140737488355328∧
      K (.one k) (.own k 0 (n+m)) ((σ.map (Option.map fun R=>{ R with cells:=rnL (fg k) R.cells })).set k (some ⟨e,true,rnL (fg k) R.cells++rnL (fg k) l⟩))
    |none=>False
   |_,_=>False
  |_=>gI P (at_ σ) ev σ.length (.app e bytes z s' x) fun r news=>K .no r (σ++news)
 | .call f args=>gI P (at_ σ) ev σ.length (.call f args) (fun r news=>K .no r (σ++news))∨
   (∃(M:List Nat) (fz:Bool) (ds:List AV) (res:AV) (σ1:Sto),M.Nodup∧rwL (at_ σ) M (args.map ev)=some ds∧rwIn σ M=true∧Does P f ds (rwS σ M) res σ1∧v7 σ σ1 M 0=true∧ol (σ1.drop M.length)=true∧scal res=true∧
    K .no (rn (rwN M fz σ.length) res) (gr σ1 fz M 0 σ++σ1.drop M.length))∨
   ∃(M:List Nat) (gv:List Nat) (fz:Bool) (ds:List AV) (res:AV) (σ1:Sto),M.Nodup∧rnL (fun i=>aP i M) (args.map ev)=ds∧Does P f ds (cgIn σ M gv) res σ1∧cgOk σ σ1 gv M 0=true∧
    K (.call gv M) (rn (cgNu M gv fz σ.length) res) (cgGo σ1 M gv fz σ.length 0 σ++qH σ1 M gv fz σ.length)
 | .cvl x args=>gI P (at_ σ) ev σ.length (.cvl x args) (fun r news=>K .no r (σ++news))∨
   ∃(f:Nat) (l:List AV) (M:List Nat) (gv:List Nat) (fz:Bool) (ds:List AV) (res:AV) (σ1:Sto),ev x=.clo f l∧tz P f=true∧M.Nodup∧rnL (fun i=>aP i M) (args.map ev++l)=ds∧Does P f ds (cgIn σ M gv) res σ1∧cgOk σ σ1 gv M 0=true∧
    K (.call gv M) (rn (cgNu M gv fz σ.length) res) (cgGo σ1 M gv fz σ.length 0 σ++qH σ1 M gv fz σ.length)
 |i=>gI P (at_ σ) ev σ.length i fun r news=>K .no r (σ++news)
def put(env:List AV)(dst:Option Nat)(r:AV):List AV:=
 match dst with
 |some t=>env.set t r
 |none=>env
def ei(f:Fg)(env:List AV):List AV:=
 match f with
 | .no=>env
 | .one k=>apVL k env
 | .call gv M=>cgL gv M env
def gd(g:Option (Nat × Bool))(env:List AV)(A B:Prop):Prop:=
 match g with
 |none=>A
 |some (t,want)=>match env.getD t .any with
  | .d (.bool b)=>if b=want then A else B
  | .und=>B
  |_=>False
def runG(P:Program):List Ins→List AV→Sto→(List AV→Sto→Prop)→Prop
 | [],env,σ,K=>K env σ
 |i :: l,env,σ,K=>gd i.g env (gI P (at_ σ) (O.ev env) σ.length i.op fun r news=>runG P l (put env i.dst r) (σ++news) K) (runG P l (put env i.dst .und) σ K)
def runT(P:Program):List Ins→List AV→Sto→(List AV→Sto→Prop)→Prop
 | [],env,σ,K=>K env σ
 |i :: l,env,σ,K=>gd i.g env (tI P σ (O.ev env) i.op fun ks r σ'=>runT P l (put (ei ks env) i.dst r) σ' K) (runT P l (put env i.dst .und) σ K)
def reQ(P:Program):List Ins→List AV→Sto→(List AV→Sto→Prop)→Prop
 | [],e,σ,K=>K e σ
 |q :: l,e,σ,K=>gI P (at_ σ) (O.ev e) σ.length q.op fun r news=>(match q.dst with
  |some d=>r=e.getD d .any
  |none=>True)∧news=[]∧reQ P l e σ K
def runW(P:Program)(qs:List Ins):List Ins→List AV→Sto→(List AV→Sto→Prop)→Prop
 | [],env,σ,K=>K env σ
 |i :: l,env,σ,K=>gd i.g env (tI P σ (O.ev env) i.op fun ks r σ'=>reQ P qs (put (ei ks env) i.dst r) σ' fun e σ=>runW P qs l e σ K) (reQ P qs (put env i.dst .und) σ fun e σ=>runW P qs l e σ K)
def zf(Z:List Nat)(k:Nat):Option Nat:=if Z.contains k=true then none else some k
def zs(Z:List Nat)(σ:Sto):Sto:=σ.map (Option.map fun R=>{ R with cells:=rnL (zf Z) R.cells })
def m5:List Nat→Sto→Sto
 | [],σ=>σ
 |k :: Z,σ=>(m5 Z σ).set k none
def HH(k:Nat)(σ:Sto):Bool:=σ.all fun x=>match x with
 |some R=> !(idsL R.cells).contains k
 |none=>true
def isAp:I→Bool
 | .app .. =>true
 |_=>false
def kI(P:Program)(Z chk:List Nat)(env:List AV)(σ:Sto)(op:I)(K:List Nat→List AV→AV→Sto→Prop):Prop:=
 match op with
 | .app e bytes z s' x=>match O.ev env s' with
  | .own k off n=>match at_ σ k,lenA (at_ σ) (O.ev env x)with
   |some R,some m=>match srcA (at_ σ) (m*e) (O.ev env x)with
    |some l=>R.g=true∧R.e=e∧off=0∧R.cells.length=n*e∧bytes*(n+m)≤140737488355328∧Z.contains k=false∧((k :: Z).all fun q=> !(idsL (R.cells++l)).contains q)=true∧HH k σ=true∧
      (chk.all fun t=> !(idsA (env.getD t .any)).contains k)=true∧K (k :: Z) (rnL (fg k) env) (.own σ.length 0 (n+m)) (σ++[some ⟨e,true,R.cells++l⟩])
    |none=>False
   |_,_=>False
  |_=>gI P (at_ σ) (O.ev env) σ.length (.app e bytes z s' x) fun r news=>K Z env (rn (zf Z) r) (σ++zs Z news)
 |op=>gI P (at_ σ) (O.ev env) σ.length op fun r news=>K Z env (rn (zf Z) r) (σ++zs Z news)
def runK(P:Program):List (Ins × List Nat)→List Nat→List AV→Sto→(List AV→Sto→Prop)→Prop
 | [],Z,env,σ,K=>K env (m5 Z σ)
 |(i,chk) :: l,Z,env,σ,K=>gd i.g env (kI P Z chk env σ i.op fun Z' env' r σ'=>runK P l Z' (put env' i.dst r) σ' K) (runK P l Z (put env i.dst .und) σ K)
inductive Ex where
 |normal
 |exit (id:Nat)
 |ret
def cut(n:Nat)(i:Nat):Option Nat:=if i<n then some i else none
def bu(live:List Nat)(n:Nat):Nat→List AV→List AV
 |_,[]=>[]
 |i,x :: l=>(if live.contains i then rn (cut n) x else .any) :: bu live n (i+1) l
def bH(live:List Nat)(n:Nat)(env:List AV):List AV:=bu live n 0 env
def fu(n:Nat)(σ:Sto):Sto:=(σ.take n).map (Option.map fun R=>{ R with cells:=rnL (cut n) R.cells })
def Stay(γ:Labels)(φ:Nat→Nat)(γ':Labels)(φ':Nat→Nat)(k:Nat):Prop:=φ' k=φ k∧(γ (φ k)=.r k []→γ' (φ k)=.r k [])
theorem Stay.refl{γ:Labels}{φ:Nat→Nat}{k:Nat}:Stay γ φ γ φ k:=⟨rfl,id⟩
theorem Stay.trans{γ γ' γ'':Labels}{φ φ' φ'':Nat→Nat}{k:Nat}(h:Stay γ φ γ' φ' k)(h':Stay γ' φ' γ'' φ'' k):Stay γ φ γ'' φ'' k:=
 ⟨h'.1.trans h.1,fun e=>by have:=h'.2;rw[h.1]at this;exact this (h.2 e)⟩
def Wk(m0:Nat)(e:List AV)(σ:Sto)(e':List AV)(σ':Sto):Prop:=
 ∀γ φ w vs,Sim γ φ (at_ σ) w→RelL w γ φ (at_ σ) e vs→∃γ' φ',Kst γ w γ' w∧Sim γ' φ' (at_ σ') w∧RelL w γ' φ' (at_ σ') e' vs∧
  ∀k R,k<m0→at_ σ k=some R→R.g=false→Stay γ φ γ' φ' k∧∃R',at_ σ' k=some R'∧R'.g=false
theorem Wk.refl{m0:Nat}(e:List AV)(σ:Sto):Wk m0 e σ e σ:=fun γ φ w _ hS hE=>⟨γ,φ,Kst.refl γ w,hS,hE,fun _ R _ h hg=>⟨Stay.refl,R,h,hg⟩⟩
theorem Wk.trans{m0:Nat}{e e' e'':List AV}{σ σ' σ'':Sto}(h:Wk m0 e σ e' σ')(h':Wk m0 e' σ' e'' σ''):Wk m0 e σ e'' σ'':=fun γ φ w vs hS hE=>by
 obtain⟨γ1,φ1,hK,hS1,hE1,hf⟩:=h γ φ w vs hS hE;obtain⟨γ2,φ2,hK2,hS2,hE2,hf2⟩:=h' γ1 φ1 w vs hS1 hE1;refine⟨γ2,φ2,hK.trans hK2,hS2,hE2,fun k R hk hR hg=> ?_⟩;obtain⟨h1,R1,h2,h3⟩:=hf k R hk hR hg;obtain⟨h4,R2,h5,h6⟩:=hf2 k R1 hk h2 h3;exact⟨h1.trans h4,R2,h5,h6⟩
def wpC(P:Program)(m0:Nat):C→(Ex→List AV→Sto→Prop)→List AV→Sto→Prop
 | .skip,K,e,σ=>K .normal e σ
 | .reg l,K,e,σ=>runT P l e σ (K .normal)
 | .draw p t,K,e,σ=>runG P p e σ fun e σ=>runT P t e σ (K .normal)
 | .drawK p t,K,e,σ=>runK P p [] e σ fun e σ=>runT P t e σ (K .normal)
 | .drawW p qs m t,K,e,σ=>runG P p e σ fun e' σ'=>σ'.length=σ.length∧reQ P qs e' σ' fun e σ=>runW P qs m e σ fun e σ=>runT P t e σ (K .normal)
 | .seq a b,K,e,σ=>wpC P m0 a (fun x e σ=>match x with
  | .normal=>wpC P m0 b K e σ
  |x=>K x e σ) e σ
 | .cond c a b,K,e,σ=>match c.ev e with
  | .d (.bool t)=>if t=true then wpC P m0 a K e σ else wpC P m0 b K e σ
  |_=>False
 | .block id b,K,e,σ=>wpC P m0 b (fun x e σ=>match x with
  | .exit i=>if i=id then K .normal e σ else K (.exit i) e σ
  |x=>K x e σ) e σ
 | .loop b,K,e,σ=>∃J:Nat→List AV→Sto→Prop,(∃m e' σ',Wk m0 e σ e' σ'∧J m e' σ')∧
   ∀m e σ,J m e σ→wpC P m0 b (fun x e σ=>match x with
    | .normal=>∃m' e' σ',m'<m∧Wk m0 e σ e' σ'∧J m' e' σ'
    |x=>K x e σ) e σ
 | .exit id,K,e,σ=>K (.exit id) e σ
 | .ret,K,e,σ=>K .ret e σ
 | .gh a,K,e,σ=>wpC P m0 a (fun x e σ=>match x with
  | .normal=>∃e' σ',Wk m0 e σ e' σ'∧K .normal e' σ'
  |x=>K x e σ) e σ
inductive RV where
 |t (t:Nat)
 |cell (a n:Nat)
def u5(env:List AV)(σ:Sto):RV→Option AV
 | .t t=>some (env.getD t .any)
 | .cell a n=>match env.getD a .any with
  | .ptr k off=>match at_ σ k with
   |some R=>if off+n≤R.cells.length then some (.agg (cvL k off ((R.cells.drop off).take n))) else none
   |none=>none
  |_=>none
def resL(env:List AV)(σ:Sto):List RV→Option (List AV)
 | []=>some []
 |x :: l=>match u5 env σ x,resL env σ l with
  |some y,some m=>some (y :: m)
  |_,_=>none
def resA(l:List RV)(env:List AV)(σ:Sto):Option AV:=
 match resL env σ l with
 |some [x]=>some x
 |some m=>some (.tup m)
 |none=>none
def nrmR(m:Nat)(ids:List Nat)(k:Nat):Option Nat:=if k<m then some k else (aP k ids).map (· +m)
def idsN(m:Nat)(r:AV):List Nat:=(idsA r).filter fun k=>decide (m≤k)
def nrm(m:Nat)(ids:List Nat)(r:AV)(σ:Sto):AV × Sto:=
 (rn (nrmR m ids) r,(σ.take m++ids.map (at_ σ)).map (Option.map fun R=>{ R with cells:=rnL (nrmR m ids) R.cells }))
structure Fun where
 np:Nat
 nt:Nat
 body:C
 res:List RV
def Fun.erase(F:Fun):Fun:={ F with body:=F.body.erase }
def FnOk(P:Program)(F:Fun)(args:List AV)(σ0:Sto)(res:AV)(σ1:Sto):Prop:=
 args.length≤F.nt∧wpC P σ0.length F.body (fun x env σ=>(match x with
  | .exit _=>False
  |_=>True)∧∃env' σ',Wk σ0.length env σ env' σ'∧σ0.length≤σ'.length∧∃r ids,resA F.res env' σ'=some r∧ids.Nodup∧(∀k∈ids,σ0.length≤k)∧nrm σ0.length ids r σ'=(res,σ1)) (args++List.replicate (F.nt-args.length) .und) σ0
end Go.Lift
namespace Go.Lift
open Go.RowKit
def cV1:Value→Option AV
 | .int .i64 n=>some (.d (.int n))
 | .int .u8 n=>some (.d (.byte n))
 | .bool b=>some (.d (.bool b))
 | .string s=>some (.d (.str s))
 | .slice none 0 0=>some .nil
 |_=>none
def cVs:List Value→Option (List AV)
 | []=>some []
 |v :: l=>match cV1 v,cVs l with
  |some x,some m=>some (x :: m)
  |_,_=>none
def cV:Value→Option AV
 | .agg cs=>(cVs cs.toList).map .agg
 |v=>cV1 v
def cO:Operand→Option O
 | .tmp t=>some (.t t)
 | .const v=>some (.c ((cV v).getD .any))
 |_=>none
def cOs:List Operand→Option (List O)
 | []=>some []
 |x :: l=>match cO x,cOs l with
  |some y,some m=>some (y :: m)
  |_,_=>none
def cOo:Option Operand→Option (Option O)
 |none=>some none
 |some x=>(cO x).map some
def shk:BinOp→Operand→Option Nat
 | .shr,.const (.int .i64 _)=>none
 | .shr,.const (.int _ c)=>if 0≤c then some c.toNat else none
 |_,_=>none
def szOf(P:Program)(t:TypeId):Option Nat:=(P.info? t).map (·.size)
def zOf(P:Program)(t:TypeId):Option (List AV):=
 match P.info? t with
 |some i=>match i.zero with
  |some v=>match cVs v.cells.toList with
   |some l=>if l.length=i.size then some l else none
   |none=>none
  |none=>none
 |none=>none
def oneZ(P:Program)(t:TypeId):Bool:=match P.info? t with
 |some i=>match i.zero with
  |some v=>decide (1≤v.cells.size)
  |none=>false
 |none=>false
def hC(P:Program)(t:TypeId):Option Bool:=
 match P.underlying t with
 |some (.struct _)|some (.array _ _)=>some true
 |some _=>some false
 |none=>none
def qn(P:Program)(fs:Array Field):List (Nat × Operand)→Option (List (Nat × Nat × O))
 | []=>some []
 |(i,x) :: l=>match fs[i]?,cO x,qn P fs l with
  |some f,some y,some m=>match szOf P f.type with
   |some n=>some ((f.offset,n,y) :: m)
   |none=>none
  |_,_,_=>none
def uU(size:Nat):List (Nat × Operand)→Option (List (Nat × Nat × O))
 | []=>some []
 |(i,x) :: l=>match cO x,uU size l with
  |some y,some m=>some ((i*size,size,y) :: m)
  |_,_=>none
def EN(P:Program)(c:Call):Option I:=
 match c.callee with
 | .value (.func f)=>match P.funcs[f]?,cOs c.args.toList with
  |some fn,some l=>if fn.body.isSome&& !(fn.name== "runtime.NumGoroutine") then some (.call f l) else none
  |_,_=>none
 | .builtin .len=>match c.args.toList,c.argTypes.toList with
  | [x],[t]=>match P.underlying t,cO x with
   |some (.slice _),some y=>some (.len y)
   |some .string,some y=>some (.lens y)
   |_,_=>none
  |_,_=>none
 | .builtin .min=>match c.args.toList with
  | [x,y]=>match cO x,cO y with
   |some x,some y=>some (.mnx false x y)
   |_,_=>none
  |_=>none
 | .builtin .max=>match c.args.toList with
  | [x,y]=>match cO x,cO y with
   |some x,some y=>some (.mnx true x y)
   |_,_=>none
  |_=>none
 | .builtin .append=>match c.args.toList,c.argTypes.toList with
  | [x,y],[t,u]=>match P.underlying t,cO x,cO y with
   |some (.slice e),some x,some y=>match P.info? e,zOf P e with
    |some i,some z=>if 1≤i.bytes∧1≤i.size∧u=t then some (.app i.size i.bytes z x y) else none
    |_,_=>none
   |_,_,_=>none
  |_,_=>none
 | .builtin .copy=>match c.args.toList,c.argTypes.toList with
  | [x,y],[t,_]=>match P.underlying t,cO x,cO y with
   |some (.slice e),some x,some y=>(szOf P e).bind fun n=>if 1≤n then some (.copy n x y) else none
   |_,_,_=>none
  |_,_=>none
 | .builtin .clear=>match c.args.toList,c.argTypes.toList with
  | [x],[t]=>match P.underlying t,cO x with
   |some (.slice e),some x=>match szOf P e,zOf P e with
    |some n,some z=>some (.clear n z x)
    |_,_=>none
   |_,_=>none
  |_,_=>none
 | .value (.tmp t)=>(cOs c.args.toList).map (.cvl (.t t))
 |_=>none
def Lj(P:Program)(fs:Array Field):Bool:=fs.toList.zipIdx.all fun (f,i)=>f.name != "_" &&f.offset==i&&(match P.underlying f.type with
 |some (.int .i64)=>true
 |_=>false)
def cOp(P:Program)(op:Op):Option I:=
 match op with
 | .move x | .assign x=>(cO x).map .mv
 | .pick c a b=>match cO c,cO a,cO b with
  |some c,some a,some b=>some (.pick c a b)
  |_,_,_=>none
 | .alloc t=>match zOf P t with
  |some z=>some (.zer z)
  |none=>if oneZ P t then some (.zer [.any]) else none
 | .box _ x=>(cO x).map .box
 | .build t ps=>match P.underlying t,zOf P t with
  |some (.struct fs),some z=>if fs.toList.all (fun f=>(P.info? f.type).isSome)=true then (qn P fs ps.toList).map (.agg z) else none
  |_,_=>none
 | .buildSlice t n ps=>match P.underlying t with
  |some (.slice e)=>match szOf P e,zOf P e with
   |some size,some z=>if 1≤size∧n*size≤2 ^ 24 then (uU size ps.toList).map (.mksl size n z) else none
   |_,_=>none
  |_=>none
 | .load t a=>match hC P t,szOf P t,cO a with
  |some true,some n,some a=>some (.ldn n a)
  |some false,some _,some a=>some (.ld a)
  |_,_,_=>none
 | .store t a x=>match szOf P t,cO a,cO x with
  |some n,some a,some x=>if 1≤n then some (.st n a x) else none
  |_,_,_=>none
 | .binOp op t x y _=>match shk op y,P.underlying t,cO x,cO y with
  |some n,some (.int .i64),some x,some _=>some (.shk n x)
  |some _,_,_,_=>none
  |none,some (.int _),some x,some y=>some (.bin op x y)
  |none,some .bool,some x,some y=>match op with
   | .eql=>some (.binb false x y)
   | .neq=>some (.binb true x y)
   |_=>none
  |none,some .string,some x,some y=>match op with
   | .add=>some (.cat x y)
   | .eql=>some (.eqst false x y)
   | .neq=>some (.eqst true x y)
   |_=>none
  |none,some (.struct fs),some x,some y=>if Lj P fs=true∧P.stoodInHeld t=false∧P.eqGuardType P.depth t=false then (match op with
   | .eql=>some (.eqs false fs.size x y)
   | .neq=>some (.eqs true fs.size x y)
   |_=>none) else none
  |none,some (.slice _),some x,some y=>match op with
   | .eql=>some (.isn false x y)
   | .neq=>some (.isn true x y)
   |_=>none
  |_,_,_,_=>none
 | .nilCheck x=>(cO x).map .nck
 | .field t x f=>match P.underlying t,cO x with
  |some (.struct fs),some x=>match fs[f]? with
   |some fd=>match hC P fd.type,szOf P fd.type with
    |some ag,some n=>some (.fdv fd.offset n ag x)
    |_,_=>none
   |none=>none
  |_,_=>none
 | .unOp .not _ x=>(cO x).map .not
 | .unOp .neg _ x=>(cO x).map .neg
 | .makeSlice t l c=>match P.underlying t,cO l,cO c with
  |some (.slice e),some l,some c=>match P.info? e,zOf P e with
   |some i,some z=>if 1≤i.bytes∧1≤i.size then some (.make i.size i.bytes z l c) else none
   |_,_=>none
  |_,_,_=>none
 | .slice t x lo hi none=>match P.underlying t,cO x,cOo lo,cOo hi with
  |some (.slice e),some x,some lo,some hi=>(szOf P e).bind fun n=>if 1≤n then some (.slc n x lo hi) else none
  |_,_,_,_=>none
 | .fieldAddr t x f=>match P.underlying t,cO x with
  |some (.struct fs),some x=>match fs[f]? with
   |some fd=>match szOf P fd.type with
    |some n=>if 1≤n then some (.fld fd.offset x) else none
    |none=>none
   |none=>none
  |_,_=>none
 | .indexAddr t x i=>match P.underlying t,cO x,cO i with
  |some (.slice e),some x,some i=>(szOf P e).map fun n=>.idx n x i
  |some (.array n e),some x,some i=>(szOf P e).map fun m=>.aix m n x i
  |_,_,_=>none
 | .index t x i=>match P.underlying t,cO x,cO i with
  |some (.array n e),some x,some i=>match hC P e,szOf P e with
   |some false,some 1=>some (.ixa n x i)
   |_,_=>none
  |_,_,_=>none
 | .extract x i=>(cO x).map (.ext i)
 | .convert s d x=>match P.underlying s,P.underlying d,cO x with
  |some (.int .u8),some (.int .i64),some x=>some (.cvt false x)
  |some (.int .i64),some (.int .u8),some x=>some (.cvt true x)
  |some (.slice e),some .string,some x=>match P.underlying e with
   |some (.int .u8)=>some (.bst x)
   |_=>none
  |_,_,_=>none
 | .call c=>EN P c
 | .makeFunc (.func f) first caps=>if first= #[] then (cOs caps.toList).map (.mkc f) else none
 |_=>none
def cG(ops:List Oper):Option (Nat × Bool)→Option (Option (Nat × Bool))
 |none=>some none
 |some (j,b)=>match ops[j]? with
  |some o=>match o.dst with
   |some t=>some (some (t,b))
   |none=>none
  |none=>none
def cIns(P:Program)(ops:List Oper)(o:Oper):Option Ins:=
 match cOp P o.op,cG ops o.guard with
 |some i,some g=>some ⟨o.dst,g,i⟩
 |_,_=>none
def bw(P:Program)(ops:List Oper):List Oper→Option (List Ins)
 | []=>some []
 |o :: l=>match cIns P ops o,bw P ops l with
  |some i,some m=>some (i :: m)
  |_,_=>none
def edg(o:Oper):List Nat:=o.after.toList.filterMap fun e=>if Region.binds .any e then some e.on else none
def Do(acc:List Nat)(es:List Nat):Nat:=es.foldl (fun s e=>s||| 2 ^ e||| acc.getD e 0) 0
def aN(acc:List Nat):List Oper→List Nat
 | []=>acc
 |o :: l=>aN (acc++[Do acc (edg o)]) l
def fullB(ms:List Nat)(t:Nat):Bool:=(List.range t).all fun i=>(ms.getD t 0).testBit i
def dD(ms:List Nat):Nat→Nat
 |0=>0
 |n+1=>if fullB ms n then dD ms n else n+1
def MW:Operand→Option Nat
 | .tmp t=>some t
 |_=>none
def Cv(ops:List Oper)(o:Oper):Option Nat:=match o.guard with
 |some (j,_)=>(ops[j]?).bind (·.dst)
 |none=>none
def aV(ops:List Oper)(o:Oper):List Nat:=o.op.operands.toList.filterMap MW++(Cv ops o).toList
def bv(ops:List Oper)(j:Nat):Option Nat:=(ops[j]?).bind (·.dst)
def wM(ops:List Oper)(ms:List Nat)(i j:Nat)(o:Oper):Bool:=
 match bv ops j with
 |some t=>(!(aV ops o).contains t||(decide (j<i)&&(ms.getD i 0).testBit j))&&(i==j|| !(o.dst==some t))
 |none=>true
def dB(ops:List Oper)(ms:List Nat)(m:Nat):Bool:=
 (List.range m).all fun i=>match ops[i]? with
  |some o=>(edg o).all (fun e=>decide (e<i))&&(List.range m).all fun j=>wM ops ms i j o
  |none=>false
def d9(n m:Nat):Array Bool:=((List.range n).map fun i=>decide (i<m)).toArray
def qC(o:Oper):Bool:=(match o.op with
 | .move _=>true
 | .assign _=>true
 |_=>false)&&o.guard.isNone&&o.dst.isSome
def Br(ops:List Oper)(ms:List Nat):Nat→Nat
 |0=>0
 |n+1=>if ((ops[n]?).map qC).getD false&& !fullB ms n then Br ops ms n else n+1
def AW(ops:List Oper)(ms:List Nat)(m f:Nat):Bool:=
 match ops[f]? with
 |some o=>qC o&&(edg o).all (fun e=>decide (e<m))&&(match o.dst with
  |some d=> !(aV ops o).contains d&&(List.range ops.length).all fun j=>j==f||match ops[j]? with
   |some oj=> !(aV ops oj).contains d&& !(oj.dst==some d)&&((ms.getD f 0).testBit j||(Oper.apart ops.toArray o oj&&match oj.dst with
    |some e=> !(aV ops o).contains e
    |none=>true))
   |none=>true
  |none=>false)
 |none=>false
def By(o:Oper):Bool:=(match o.op with
 | .move _=>true
 | .assign _=>true
 | .extract .. =>true
 |_=>false)&&o.guard.isNone
def rE(ops:List Oper)(ms:List Nat)(p:Nat):Bool:=
 match ops[p]? with
 |some o=>By o&&(List.range ops.length).all fun j=>j==p||(ms.getD p 0).testBit j||match ops[j]? with
  |some oj=>(edg oj).contains p||Oper.apart ops.toArray o oj
  |none=>true
 |none=>false
def fset(ops:List Oper)(ms:List Nat)(m:Nat):List Nat:=(List.range m).filter fun p=>(List.range (ops.length-m)).any fun d=> !(ms.getD (m+d) 0).testBit p
def tg(ms F:List Nat)(t:Nat):Bool:=(List.range t).all fun i=>F.contains i||(ms.getD t 0).testBit i
def oR(ops:List Oper)(ms F:List Nat):Bool:=F.all fun p=>rE ops ms p&&match ops[p]? with
 |some o=>(edg o).all fun e=> !F.contains e
 |none=>false
def rL(n m nf:Nat):Array Bool:=((List.range n).map fun i=>decide (i<m)||decide (nf≤i)).toArray
def BU(i:Ins):Bool:=match i.op with
 | .st .. =>false
 | .copy .. =>false
 | .clear .. =>false
 |_=>true
def qm(P:Program)(ops:List Oper)(draw:Bool):Option C:=
 match bw P ops ops with
 |none=>none
 |some l=>
  if draw then
   let ms:=aN [] ops
   let m:=dD ms ops.length
   if (l.take m).all BU then
    if dB ops ms m&&(List.range (ops.length-m)).all (fun d=>fullB ms (m+d))&&Region.seqB .any ops.toArray (ops.length-m) m (d9 ops.length m)&&Region.noSelect ops.toArray then some (.draw (l.take m) (l.drop m)) else none
   else
    let m2:=((l.findIdx? fun i=> !BU i).getD 0)
    let F:=fset ops ms m2
    if dB ops ms m2&&decide (m2≤ops.length)&&oR ops ms F&&(List.range (ops.length-m2)).all (fun d=>tg ms F (m2+d))&&Region.seqB .any ops.toArray (ops.length-m2) m2 (d9 ops.length m2)&&Region.noSelect ops.toArray then
     some (.draw (l.take m2) (l.drop m2)) else
    let nf:=Br ops ms ops.length
    let m:=dD ms nf
    if dB ops ms m&&(List.range (nf-m)).all (fun d=>fullB ms (m+d))&&(List.range (ops.length-nf)).all (fun d=>AW ops ms m (nf+d))&&Region.seqB .any ops.toArray (nf-m) m (rL ops.length m nf)&&Region.noSelect ops.toArray then
     some (.draw (l.take m++l.drop nf) ((l.drop m).take (nf-m))) else none
  else some (.reg l)
def df(P:Program):Code→Option C
 | .skip=>some .skip
 | .region _ ops draw=>qm P ops.toList draw
 | .seq a b=>match df P a,df P b with
  |some a,some b=>some (.seq a b)
  |_,_=>none
 | .cond c a b=>match cO c,df P a,df P b with
  |some c,some a,some b=>some (.cond c a b)
  |_,_,_=>none
 | .block id b=>(df P b).map (.block id)
 | .loop b=>(df P b).map .loop
 | .exit id=>some (.exit id)
 | .ret=>some .ret
 |_=>none
def cRV(P:Program):ResultVar→Option RV
 | .tmp t=>some (.t t)
 | .cell a t=>match hC P t,szOf P t with
  |some true,some n=>some (.cell a n)
  |_,_=>none
def cRVs(P:Program):List ResultVar→Option (List RV)
 | []=>some []
 |x :: l=>match cRV P x,cRVs P l with
  |some y,some m=>some (y :: m)
  |_,_=>none
def cFun(P:Program)(fn:Func):Option Fun:=
 match fn.body with
 |some c=>match df P c,cRVs P fn.results.toList with
  |some b,some r=>if fn.nfree=0 then some ⟨fn.params.size,fn.ntmps,b,r⟩ else none
  |_,_=>none
 |none=>none
end Go.Lift
