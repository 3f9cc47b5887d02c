/-
 Contract: the library's sort of ints writes the sorted list into its slice. No condition.
-/
import Derived.Test.YtjfmckhbmdjnpaaGreatShs
import Derived.Test.YtjfmckhbmdjnpaaGreatPlD
set_option linter.unusedSimpArgs false
set_option linter.unusedVariables false
namespace Go.Proofs.YtjfmckhbmdjnpaaGreat
open Go.RowKit Go.Lift Plain
set_option maxRecDepth 100000
theorem EL {xs:List Int} {j:Nat} (h:j<xs.length):(iv xs)[j]? =some (.d (.int xs[j])):=by simp [iv,h]
theorem yy {cur:Array Value} {ys:List Int} {j:Nat} (h:j<ys.length) (hc:ys.length≤cur.size):(Sort.putCells (Value.int .i64) 0 ys.toArray cur)[j]? =some (.int .i64 ys[j]):=by
 unfold Sort.putCells
 rw[Array.getElem?_mapIdx,Array.getElem?_eq_getElem (by omega),Option.map_some,if_pos ⟨Nat.zero_le _,by simpa using h⟩]
 simp [h]
theorem yx {cur:Array Value} {ys:List Int}:(Sort.putCells (Value.int .i64) 0 ys.toArray cur).size=cur.size:=by simp [Sort.putCells]
theorem yw {w:World} {b:Nat} {cur:Array Value} {T:TypeId} (hh:w.heap[b]? =some (.cells cur T (0,0))) (n:Nat) (os:Array Obj) (ys:List Int):
  ∀ k,k<w.heap.size→(Sort.grow (Sort.putRow (Value.int .i64) (Sort.ahead w n) b 0 ys.toArray) os).heap[k]? =(w.setRow b (Sort.putCells (Value.int .i64) 0 ys.toArray cur)).heap[k]? :=fun k hk=>by
 have e:(Sort.grow (Sort.putRow (Value.int .i64) (Sort.ahead w n) b 0 ys.toArray) os).heap=w.heap.modify b (Sort.onCells (Sort.putCells (Value.int .i64) 0 ys.toArray))++os:=rfl
 rw[e,Array.getElem?_append,if_pos (by simpa using hk),Array.getElem?_modify]
 by_cases hb:b=k
 ·subst hb
  rw[if_pos rfl,hh,setRow_heap w b cur _ T _ hh]
  rfl
 ·rw[if_neg hb,setRow_other w b k _ (Ne.symm hb)]
theorem Ih {xs:List Int} {g:Bool} (hl:xs.length≤1048576):Does Tryz.prog 106 [.own 0 0 xs.length] [some ⟨1,g,iv xs⟩] (.tup []) [some ⟨1,g,iv (srt xs)⟩]:=by
 intro γ φ w vals hS hr
 simp only[RelL]at hr
 obtain⟨v,_,rfl,hv,rfl⟩:=hr
 simp only[Rel]at hv
 obtain⟨R,hR,hv⟩:=hv
 obtain rfl:R=⟨1,g,iv xs⟩:=by simpa [at_]using hR.symm
 by_cases hx:xs=[]
 ·subst hx
  obtain⟨p,c,rfl⟩:∃ p c,v=.slice p 0 c:=by
   rcases hv with ⟨rfl,_⟩ | ⟨c,_,_,rfl,_⟩
   ·exact⟨_,_,rfl⟩
   ·exact⟨_,_,rfl⟩
  refine(Tryz.slices_Sort_int_none p c w).mono fun e w' hq=> ?_
  obtain⟨rfl,rfl⟩:=hq
  refine⟨_,γ,φ,rfl,Kst.refl γ w',fun k R _ _=>⟨rfl,id⟩, ?_, ?_⟩
  ·have e:srt []=[]:=List.eq_nil_of_length_eq_zero (li [])
   rw[e];exact hS
  ·simp only[Rel,RelL];exact⟨#[],rfl,rfl⟩
 ·have hn:0<xs.length:=List.length_pos_iff.2 hx
  rcases hv with ⟨_,h0,_⟩ | ⟨c,cur,T,rfl,hc,hg,hh,_⟩
  ·omega
  have hlt:φ 0<w.heap.size:=(Array.getElem?_eq_some_iff.1 hh).1
  rcases hS.root 0 _ hR with h0 | ⟨cur',T',hh',_,hlen,hcells⟩
  ·have:=congrArg List.length h0
   rw[gR]at this
   exact absurd this (by simp only[zn];omega)
  rw[hh]at hh'
  obtain⟨rfl,rfl⟩:cur=cur'∧T=T':=by simpa using hh'
  have hlen':xs.length≤cur.size:=by exact Nat.le_trans (Nat.le_of_eq gR.symm) hlen
  have hcell:∀ j (h:j<xs.length),cur[j]? =some (.int .i64 xs[j]):=fun j h=>by
   obtain⟨u,hu,hr⟩:=hcells j _ (EL h)
   simp only[CRel,Rel,Rd]at hr
   rw[hu,hr]
  have hH:Sort.Holds (Value.int .i64) w (φ 0) 0 xs.toArray:=fun j hj=>by
   have hj':j<xs.length:=by simpa using hj
   refine⟨?_, ?_⟩
   ·unfold World.cell?
    simp only[hh,Nat.zero_add]
    rw[if_neg (by simp),hcell j hj']
    simp [hj']
   ·unfold World.frozen?
    simp only[hh]
    simp
  refine(Tryz.slices_Sort_int (φ 0) 0 c xs w hH hlt (by omega)).mono fun e w' hq=> ?_
  obtain⟨rfl,n,os,rfl⟩:=hq
  have hsl:=li xs
  have hsame:=yw hh n os (srt xs)
  obtain⟨K1,_,S1⟩:=hS.setRow (cs:=iv (srt xs)) hR hh hg (Sort.putCells (Value.int .i64) 0 (srt xs).toArray cur) yx (by rw[gR];omega) (fun j av hj=>by
   have hj':j<(srt xs).length:=by
    have:=(List.getElem?_eq_some_iff.1 hj).1
    rwa [gR]at this
   rw[EL hj']at hj
   obtain rfl:=Option.some.inj hj
   exact⟨_,yy hj' (by omega),by simp only[CRel,Rel,Rd]⟩) (fun j x hj=>by
   have hj':j<xs.length:=by
    have:=(List.getElem?_eq_some_iff.1 hj).1
    rwa [gR]at this
   have hj2:(iv xs)[j]? =some (.tr x):=hj
   rw[EL hj']at hj2
   cases hj2)
  have hsz:(w.setRow (φ 0) (Sort.putCells (Value.int .i64) 0 (srt xs).toArray cur)).heap.size=w.heap.size:=by simp [World.setRow]
  have hsz':w.heap.size≤(Sort.grow (Sort.putRow (Value.int .i64) (Sort.ahead w n) (φ 0) 0 (srt xs).toArray) os).heap.size:=by
   show w.heap.size≤(w.heap.modify (φ 0) (Sort.onCells (Sort.putCells (Value.int .i64) 0 (srt xs).toArray))++os).size
   rw[Array.size_append,Array.size_modify]
   omega
  have K2:Kst γ (w.setRow (φ 0) (Sort.putCells (Value.int .i64) 0 (srt xs).toArray cur)) γ (Sort.grow (Sort.putRow (Value.int .i64) (Sort.ahead w n) (φ 0) 0 (srt xs).toArray) os):=by
   refine⟨rfl,rfl,rfl,by omega,fun b hb _=>⟨hsame b (by omega),rfl⟩,fun b cu T' f e=>⟨cu, ?_,rfl⟩⟩
   have hb:=(Array.getElem?_eq_some_iff.1 e).1
   exact(hsame b (by omega)).trans e
  have S2:=(S1.kept K2 (fun b k p hb=>⟨rfl,hsame b (by have:=S1.bound b k p hb;omega)⟩) (fun b k p hb=>by have:=S1.bound b k p hb;omega)).2
  refine⟨_,γ,φ,rfl,K1.trans K2,fun k R _ _=>⟨rfl,id⟩, ?_, ?_⟩
  ·have e:at_ [some ⟨1,g,iv (srt xs)⟩]=upd (at_ [some ⟨1,g,iv xs⟩]) 0 (some ⟨1,g,iv (srt xs)⟩):=by
    funext k
    cases k with
    | zero=>rfl
    | succ k=>rfl
   rw[e];exact S2
  ·simp only[Rel,RelL];exact⟨#[],rfl,rfl⟩
end Go.Proofs.YtjfmckhbmdjnpaaGreat
