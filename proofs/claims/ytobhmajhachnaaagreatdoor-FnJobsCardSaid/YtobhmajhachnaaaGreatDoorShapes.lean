/-
 Arguments of any shape (ints, flags, texts, slices, structs of these), opened as plain data. No condition.
-/
import Derived.Test.YtobhmajhachnaaaGreatDoorLift28
import Derived.Deep.Slices
namespace Go.Proofs.YtobhmajhachnaaaGreatDoor
open Go.RowKit Go.Lift Go.ChangeShapes Go.WideShapes Go.Deep
inductive Sh where
 |int
 |bool
 |str
 |byte
 |sl (es:List Sh)
 deriving Inhabited
mutual
def HasD:D→Sh→Prop
 | .int n,.int=>I64 n
 | .bool _,.bool=>True
 | .str s,.str=>s.size≤9223372036854775807
 | .byte n,.byte=>0≤n∧n≤255
 | .sl n l,.sl es=>n≤9223372036854775807∧l.length=n*es.length∧HasDL l 0 es
 |_,_=>False
def HasDL:List D→Nat→List Sh→Prop
 | [],_,_=>True
 |x :: l,j,es=>HasD x (es.getD (j % es.length) .int)∧HasDL l (j+1) es
end
theorem HasDL.of_get:∀{l:List D} {j:Nat} {es:List Sh},(∀i x,l[i]? =some x→HasD x (es.getD ((j+i) % es.length) .int))→HasDL l j es
 | [],_,_,_=>by simp only[HasDL]
 |x :: l,j,es,h=>by
  simp only[HasDL];refine⟨by simpa using h 0 x (by simp),HasDL.of_get fun i y hy=> ?_⟩;have:=h (i+1) y (by simpa using hy)
  rwa [show j+1+i=j+(i+1)by omega]
def shFs(g:TypeId→Option (List Sh))(P:Program):List Field→Nat→Option (List Sh)
 | [],_=>some []
 |f :: l,off=>match g f.type,(if f.offset=off then some () else none)with
  |some a,some _=>if a.length=P.cellsOf f.type then (shFs g P l (off+a.length)).map (a++ ·) else none
  |_,_=>none
def shOf(P:Program):Nat→TypeId→Option (List Sh)
 |0,_=>none
 |n+1,t=>match P.underlying t with
  |some (.int .i64)=>some [.int]
  |some .bool=>some [.bool]
  |some .string=>some [.str]
  |some (.int .u8)=>some [.byte]
  |some (.slice e)=>match shOf P n e with
   |some es=>if es.length=P.cellsOf e∧1≤es.length then some [.sl es] else none
   |none=>none
  |some (.struct fs)=>shFs (shOf P n) P fs.toList 0
  |_=>none
section
variable {H : Type} {enc : TypeId × Value → H} {P : Program} {w : World} {base : Nat} {spare : Nat → Bool} {held : Bool}
def Reads(w:World)(cs:List Value)(ds:List D)(shs:List Sh):Prop:=
 ds.length=cs.length∧shs.length=cs.length∧∀(i:Nat) (v:Value) (s:Sh),cs[i]? =some v→shs[i]? =some s→∃d,ds[i]? =some d∧Rd w (Im w (topL w)) d v∧HasD d s
theorem Reads.app{cs cs':List Value}{ds ds':List D}{s s':List Sh}(h:Reads w cs ds s)(h':Reads w cs' ds' s'):Reads w (cs++cs') (ds++ds') (s++s'):=by
 obtain⟨h1,h2,h3⟩:=h;obtain⟨h4,h5,h6⟩:=h';refine⟨by simp [h1,h4],by simp [h2,h5],fun i v x hv hx=> ?_⟩;by_cases hi:i<cs.length
 ·rw[List.getElem?_append_left hi]at hv
  rw[List.getElem?_append_left (by omega)]at hx ⊢;exact h3 i v x hv hx
 ·rw[List.getElem?_append_right (by omega)]at hv
  rw[List.getElem?_append_right (by omega)]at hx ⊢;rw[h2]at hx;rw[h1];exact h6 _ v x hv hx
theorem BR{g:TypeId→Option (List Sh)}{n:Nat}{cs:List Value}(ih:∀(t:TypeId) (shs:List Sh),g t=some shs→∀(cs:List Value) (x:DataW H × List MemPlace),DataW.trod enc P w base spare held n t cs=some x→shs.length=P.cellsOf t→∃ds,Reads w cs ds shs):
  ∀(l:List Field) (off:Nat) (shs:List Sh),shFs g P l off=some shs→(∀f∈l,∃x,DataW.trod enc P w base spare held n f.type ((cs.drop f.offset).take (P.cellsOf f.type))=some x)→off+shs.length≤cs.length→∃ds,Reads w ((cs.drop off).take shs.length) ds shs
 | [],off,shs,h,_,_=>by
  simp only[shFs,zj]at h;subst h;exact⟨[],by simp,by simp,by simp⟩
 |f :: l,off,shs,h,hx,hl=>by
  simp only[shFs]at h;split at h
  ·rename_i a u ha hu
   split at hu
   ·rename_i hoff
    split at h
    ·rename_i hal
     simp only[zm]at h;obtain⟨b,hb,rfl⟩:=h;rw[List.length_append]at hl;obtain⟨x,hx0⟩:=hx f (by simp);obtain⟨d1,r1⟩:=ih f.type a ha _ x hx0 hal;obtain⟨d2,r2⟩:=BR ih l _ b hb (fun f' hf'=>hx f' (by simp [hf'])) (by omega);refine⟨d1++d2, ?_⟩;have:=r1.app r2;rw[hoff, ← hal]at this;rw[List.length_append];have e:List.take (a.length+b.length) (List.drop off cs)=List.take a.length (List.drop off cs)++List.take b.length (List.drop (off+a.length) cs):=by
      rw[List.take_add,List.drop_drop]
     rw[e];exact this
    ·cases h
   ·cases hu
  ·cases h
theorem wJ:∀(f:Nat) (t:TypeId) (shs:List Sh),shOf P f t=some shs→∀(n:Nat) (cs:List Value) (x:DataW H × List MemPlace),DataW.trod enc P w base spare held n t cs=some x→shs.length=P.cellsOf t→∃ds,Reads w cs ds shs
 |0,_,_,h=>by simp [shOf]at h
 |f+1,t,shs,h=>by
  intro n cs x hx hlen;simp only[shOf]at h;split at h
  ·rename_i hu
   simp only[zj]at h;subst h;obtain⟨k,rfl,_,hw⟩:=DataW.trod_int hu hx;refine⟨[.int k],by simp,by simp,fun i v s hv hs=> ?_⟩;cases i with
   |zero=>
    simp at hv hs;subst hv hs;exact⟨.int k,by simp,by simp only[Rd],by simp only[HasD];exact I64.of_wf hw⟩
   |succ i=>simp at hv
  ·rename_i hu
   simp only[zj]at h;subst h;obtain⟨k,rfl,_⟩:=DataW.trod_bool hu hx;refine⟨[.bool k],by simp,by simp,fun i v s hv hs=> ?_⟩;cases i with
   |zero=>
    simp at hv hs;subst hv hs;exact⟨.bool k,by simp,by simp only[Rd],by simp only[HasD]⟩
   |succ i=>simp at hv
  ·rename_i hu
   simp only[zj]at h;subst h;obtain⟨k,rfl,_,hk⟩:=DataW.trod_string hu hx;refine⟨[.str k],by simp,by simp,fun i v s hv hs=> ?_⟩;cases i with
   |zero=>
    simp at hv hs;subst hv hs;exact⟨.str k,by simp,by simp only[Rd],by simp only[HasD];exact hk⟩
   |succ i=>simp at hv
  ·rename_i hu
   simp only[zj]at h;subst h;obtain⟨k,rfl,_,hw⟩:=DataW.trod_int hu hx;refine⟨[.byte k],by simp,by simp,fun i v s hv hs=> ?_⟩;cases i with
   |zero=>
    simp at hv hs;subst hv hs;have hb:0≤k∧k≤255:=by
     simp [Lit.wf,show IntKind.u8.min=0 from rfl,show IntKind.u8.max=255 from rfl]at hw;omega
    exact⟨.byte k,by simp,by simp only[Rd],by simp only[HasD];exact hb⟩
   |succ i=>simp at hv
  ·rename_i e hu
   split at h
   ·rename_i es hes
    split at h
    ·rename_i hok
     simp only[zj]at h;subst h;rcases open_slice hu hx with ⟨rfl,_⟩|⟨a,len,cap,m,n',DD,Pl,rfl,hb,hl,hm,hmm,rfl,hel⟩
     ·refine⟨[.sl 0 []],by simp,by simp,fun i v s hv hs=> ?_⟩
      cases i with
      |zero=>
       simp at hv hs;subst hv hs;refine⟨.sl 0 [],by simp, ?_, ?_⟩
       ·simp only[Rd];exact⟨none,0,rfl,by omega,.inl ⟨trivial,trivial⟩⟩
       ·simp only[HasD,HasDL];exact⟨by omega,by simp,trivial⟩
      |succ i=>simp at hv
     ·have hlm:len≤m:=by rw[hmm];split<;>omega
      have hone:∀i,i<len→∃ds:List D,ds.length=es.length∧∀j,j<es.length→∃v d,w.cell? (a.add (i*es.length+j))=some v∧ds[j]? =some d∧Rd w (Im w (topL w)) d v∧HasD d (es.getD j .int):=fun i hi=>by
       obtain⟨cs',h1,h2⟩:=hel i (by omega);obtain⟨ds,r1,r2,r3⟩:=wJ f e es hes n' cs' _ h2 hok.1;refine⟨ds,by omega,fun j hj=> ?_⟩;obtain⟨_,hcl,hc⟩:=World.cells?_some h1;have hv:=hc j (by omega);rw[add_add, ← hok.1]at hv;obtain⟨d,e1,e2,e3⟩:=r3 j _ _ (zg (by omega)) (zg hj);refine⟨cs'[j]'(by omega),d, ?_,e1,e2, ?_⟩
       ·rw[hv];exact zg (by omega)
       ·simpa [List.getD,zg hj]using e3
      obtain⟨F,hF⟩:=choose_lt (α:=List D) hone;have hk:=hok.2;have hcell:∀j,j<len*es.length→∃v,w.cell? (a.add j)=some v∧Rd w (Im w (topL w)) ((F (j / es.length)).getD (j % es.length) (.int 0)) v∧HasD ((F (j / es.length)).getD (j % es.length) (.int 0)) (es.getD (j % es.length) .int):=fun j hj=>by
       have hq:j / es.length<len:=Nat.div_lt_of_lt_mul (by rw[Nat.mul_comm];exact hj);obtain⟨v,d,e1,e2,e3,e4⟩:=(hF _ hq).2 (j % es.length) (Nat.mod_lt _ hk);rw[show j / es.length*es.length+j % es.length=j by rw[Nat.mul_comm];exact Nat.div_add_mod j es.length]at e1;rw[zq,e2];exact⟨v,e1,e3,e4⟩
      refine⟨[.sl len ((List.range (len*es.length)).map fun j=>(F (j / es.length)).getD (j % es.length) (.int 0))],by simp,by simp,fun i v s hv hs=> ?_⟩;cases i with
      |succ i=>simp at hv
      |zero=>
       simp at hv hs;subst hv hs;have hmax:maxLen≤9223372036854775807:=by unfold maxLen;omega
       refine⟨.sl len ((List.range (len*es.length)).map fun j=>(F (j / es.length)).getD (j % es.length) (.int 0)),by simp, ?_, ?_⟩
       ·simp only[Rd]
        refine⟨some a,cap,rfl,hl, ?_⟩;by_cases h0:len=0
        ·left;subst h0;simp
        ·right
         have hpos:0<len*es.length:=Nat.mul_pos (by omega) hk;obtain⟨b,o,spot⟩:=a;obtain⟨v0,hv0,_⟩:=hcell 0 hpos;have hs:spot=none:=by simpa [Addr.add]using World.cell?_spot hv0
         subst hs;have hbl:=World.block_lt_of_cell? w _ hv0;have hbl':b<w.heap.size:=by simpa [Addr.add]using hbl
         refine⟨b,o,rfl,⟨hbl',by simp [topL,hbl']⟩,RdL.of_get fun j x hx=> ?_⟩;simp only[List.getElem?_map,zm]at hx;obtain⟨q,hq,rfl⟩:=hx;have hj:j<len*es.length:=by
          have:=(List.getElem?_eq_some_iff.1 hq).1;simpa using this
         rw[List.getElem?_range hj]at hq;simp only[zj]at hq;subst hq;obtain⟨v,e1,e2,_⟩:=hcell j hj;rw[db]at e1;exact⟨v,e1,e2⟩
       ·simp only[HasD]
        refine⟨by omega,by simp,HasDL.of_get fun j x hx=> ?_⟩;simp only[List.getElem?_map,zm]at hx;obtain⟨q,hq,rfl⟩:=hx;have hj:j<len*es.length:=by
         have:=(List.getElem?_eq_some_iff.1 hq).1;simpa using this
        rw[List.getElem?_range hj]at hq;simp only[zj]at hq;subst hq;rw[Nat.zero_add];obtain⟨v,_,_,e3⟩:=hcell j hj;exact e3
    ·cases h
   ·cases h
  ·rename_i fs hu
   obtain⟨xs,n',rfl,_,hcl,hxl,hf⟩:=DataW.trod_struct hu hx;have key:=BR (enc:=enc) (P:=P) (w:=w) (base:=base) (spare:=spare) (held:=held) (n:=n') (cs:=cs) (fun t shs hg cs x hx hl=>wJ f t shs hg n' cs x hx hl) fs.toList 0 shs h (fun fd hfd=>by
    obtain⟨i,hi,rfl⟩:=List.getElem_of_mem hfd;have hi':i<fs.size:=by simpa using hi
    have:=hf i fs[i] (by simp [hi']);rw[zg (by omega)]at this;exact⟨_,by simpa using this⟩) (by omega)
   rw[List.drop_zero,zt (by omega)]at key;exact key
  ·cases h
end
end Go.Proofs.YtobhmajhachnaaaGreatDoor
