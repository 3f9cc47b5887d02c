/-
 Plain: all labels of a state have dimensions. No condition.
-/
import Derived.Test.YtneocijmbnhblaaGreatOrdB
import Derived.Test.YtneocijmbnhblaaGreatOrdC
set_option linter.unusedSimpArgs false
set_option linter.unusedVariables false
namespace Go.Proofs.YtneocijmbnhblaaGreat
open Go.RowKit Go.Lift Plain
set_option maxRecDepth 100000
def OsT (T:List Int) (s:Osd):Prop:=∀ i,∀ x∈s.lab i,1≤atT T x∧atT T x≤8
section
variable {T os : List Int} {s : Osd} {m a b : Nat}
theorem OsT.res (h:OsT T s):∀ x∈s.res os a b,1≤atT T x∧atT T x≤8:=fun x hx=>
 (aX.1 (List.mem_filter.1 hx).1).elim (h a x) (h b x)
theorem OsT.step (hs:OsOk s m) (h:OsT T s):OsT T (s.step os a b):=fun i x hx=>by
 rcases Nat.lt_trichotomy i m with hi | rfl | hi
 ·rw[ml hs hi]at hx;exact h i x hx
 ·rw[fT hs]at hx;exact h.res x hx
 ·have:(s.step os a b).lab i=[]:=by
   have:=(hs.step os a b).n
   unfold Osd.lab
   rw[List.getD_eq_getElem?_getD,List.getElem?_eq_none (by omega)];rfl
  rw[this]at hx;cases hx
theorem zQ {N:Net} (h:br N=true):OsT (cC N.ts).1 (bc N.ts):=fun i x hx=>by
 by_cases hi:i<N.ts.length
 ·rw[pW hi]at hx
  have hd:=B3 h (List.getElem_mem hi)
  have:atT (cC N.ts).1 x∈N.ts[i].dims:=by rw[← hd];exact List.mem_map_of_mem hx
  have:=(cR h _ (List.getElem_mem hi)).dim _ this
  omega
 ·have:(bc N.ts).lab i=[]:=by
   unfold Osd.lab
   rw[List.getD_eq_getElem?_getD,List.getElem?_eq_none (by simp [bc];omega)];rfl
  rw[this]at hx;cases hx
end
set_option maxRecDepth 100000
set_option maxRecDepth 100000
section
variable {N : Net} {n : Nat} {F : List Int}
def stA (F:List Int) (k:Nat):Nat:=(F.getD (k*2) 0).toNat
def stB (F:List Int) (k:Nat):Nat:=(F.getD (k*2+1) 0).toNat
structure OrdOk (N:Net) (F:List Int) (k:Nat):Prop where
 ok:OsOk (ordS N F k) (N.ts.length+k)
 t:OsT (cC N.ts).1 (ordS N F k)
structure OrdStep (N:Net) (F:List Int) (k:Nat):Prop where
 a:F.getD (k*2) 0=stA F k
 b:F.getD (k*2+1) 0=stB F k
 ma:stA F k∈(ordS N F k).nums
 mb:stB F k∈(ordS N F k).nums
 lt:stA F k<stB F k
 nx:ordS N F (k+1)=(ordS N F k).step N.os (stA F k) (stB F k)
 fol:dN (ordS N F k) (F.getD (k*2) 0) (F.getD (k*2+1) 0)=true
theorem kD (h:cn N n F=true) {k:Nat} (hk:k<n):OrdStep N F k:=by
 have h2:=(bC.1 h).2.2
 have hf:=nm h2 hk
 obtain⟨a,b,e1,e2,ha,hb,hab⟩:=oF hf
 have ea:stA F k=a:=by rw[stA,e1];rfl
 have eb:stB F k=b:=by rw[stB,e2];rfl
 have hy:=congrArg Prod.fst (kC (iX h2 (Nat.le_of_lt hk)) hf)
 exact⟨by rw[ea,e1],by rw[eb,e2],by rw[ea];exact ha,by rw[eb];exact hb,by rw[ea,eb];exact hab,hy,hf⟩
theorem m7 (h:cn N n F=true):∀ k,k≤n→OrdOk N F k
 | 0,_=>⟨nl (cR (bC.1 h).1),zQ (bC.1 h).1⟩
 | k+1,hk=>by
  have ih:=m7 h k (by omega)
  have hs:=kD h (show k<n by omega)
  exact⟨by rw[hs.nx];exact ih.ok.step _ _ _,by rw[hs.nx];exact OsT.step ih.ok ih.t⟩
theorem OrdStep.at {k:Nat} (h:OrdStep N F k) (ho:OrdOk N F k):stA F k<N.ts.length+k∧stB F k<N.ts.length+k:=by
 have hn:=ho.ok.n
 have h1:=(iq.1 h.ma).1
 have h2:=(iq.1 h.mb).1
 omega
end
set_option maxRecDepth 100000
section
variable {N : Net} {n : Nat} {F : List Int}
end
theorem oq (m:Int):∀ n j,j<n→(bw m n).getD (j*2) 0=(if j=0 then 0 else (j:Int)+1)∧(bw m n).getD (j*2+1) 0=(if j=0 then 1 else m+j-1)
 | n+1,j,h=>by
  have hl:=fD m n
  by_cases e:j=n
  ·subst e
   rw[bw,List.getD_eq_getElem?_getD,List.getD_eq_getElem?_getD,List.getElem?_append_right (by omega),List.getElem?_append_right (by omega),hl,Nat.sub_self,show j*2+1-j*2=1 by omega]
   by_cases e0:j=0
   ·simp [e0]
   ·simp [e0]
  ·have ih:=oq m n j (by omega)
   rw[bw,List.getD_eq_getElem?_getD,List.getD_eq_getElem?_getD,List.getElem?_append_left (by omega),List.getElem?_append_left (by omega), ← List.getD_eq_getElem?_getD, ← List.getD_eq_getElem?_getD]
   exact ih
theorem l8 (m k:Nat) (h:k<m):(List.range m).drop k=k :: (List.range m).drop (k+1):=by
 rw[List.drop_eq_getElem_cons (by simpa using h)]
 simp
theorem gu {m k i:Nat}:i∈(List.range m).drop k↔k≤i∧i<m:=by
 rw[List.mem_iff_getElem]
 constructor
 ·rintro⟨j,hj,rfl⟩
  simp at hj ⊢
  omega
 ·rintro⟨h1,h2⟩
  exact⟨i-k,by simp;omega,by simp;omega⟩
theorem uI {N:Net} (h:br N=true):∀ j,j≤N.ts.length-1→(cf N.os (bw N.ts.length (N.ts.length-1)) (bc N.ts) j).2=true∧
  (cf N.os (bw N.ts.length (N.ts.length-1)) (bc N.ts) j).1.nums=if j=0 then List.range N.ts.length else (List.range N.ts.length).drop (j+1)++[N.ts.length+j-1]
 | 0,_=>⟨rfl,gN N.ts⟩
 | j+1,hj=>by
  obtain⟨h1,h2⟩:=uI h j (by omega)
  have hok:=pY (nl (cR h)) j h1
  obtain⟨g1,g2⟩:=oq N.ts.length (N.ts.length-1) j (by omega)
  have hy:=kC (os:=N.os) (s:=bc N.ts) (F:=bw N.ts.length (N.ts.length-1)) (k:=j) h1
  rw[g1,g2]at hy
  generalize (cf N.os (bw N.ts.length (N.ts.length-1)) (bc N.ts) j).1=s at*
  have hns:=fun a b=>fX (os:=N.os) (a:=a) (b:=b) hok
  by_cases e:j=0
  ·subst e
   rw[if_pos rfl]at h2
   have hf:dN s 0 1=true:=decide_eq_true ⟨it.2 ⟨0,by rw[h2];simp;omega,rfl⟩,it.2 ⟨1,by rw[h2];simp;omega,rfl⟩,by omega⟩
   have hy:=hy hf
   rw[if_pos rfl,if_pos rfl]at hy
   rw[hy]
   refine⟨rfl, ?_⟩
   show (s.step N.os 0 1).nums=_
   rw[hns,h2,if_neg (by omega)]
   obtain⟨q,hq⟩:∃ q,N.ts.length=q+2:=⟨N.ts.length-2,by omega⟩
   have e0:(List.range N.ts.length).filter (Osd.off 0 1)=(List.range N.ts.length).drop 2:=by
    conv=>lhs;rw[← List.drop_zero (l:=List.range N.ts.length),l8 _ 0 (by omega),l8 _ 1 (by omega)]
    rw[List.filter_cons_of_neg (by simp [Osd.off]),List.filter_cons_of_neg (by simp [Osd.off])]
    refine List.filter_eq_self.2 fun i hi=> ?_
    have:=gu.1 hi
    simp [Osd.off]
    omega
   rw[e0]
   simp
  ·rw[if_neg e]at h2
   have ea:(if j=0 then (0:Int) else (j:Int)+1)=((j+1:Nat):Int):=by rw[if_neg e];push_cast;rfl
   have eb:(if j=0 then (1:Int) else (N.ts.length:Int)+j-1)=((N.ts.length+j-1:Nat):Int):=by rw[if_neg e];omega
   rw[ea,eb]at hy
   have hf:dN s ((j+1:Nat):Int) ((N.ts.length+j-1:Nat):Int)=true:=decide_eq_true
    ⟨it.2 ⟨j+1,by rw[h2];exact List.mem_append_left _ (gu.2 ⟨by omega,by omega⟩),rfl⟩,it.2 ⟨N.ts.length+j-1,by rw[h2];exact List.mem_append_right _ (List.mem_singleton.2 rfl),rfl⟩,by omega⟩
   have hy:=hy hf
   rw[hy]
   refine⟨rfl, ?_⟩
   show (s.step N.os (((j+1:Nat):Int)).toNat (((N.ts.length+j-1:Nat):Int)).toNat).nums=_
   rw[Int.toNat_natCast,Int.toNat_natCast,hns,h2,if_neg (by omega),List.filter_append,l8 _ (j+1) (by omega),List.filter_cons_of_neg (by simp [Osd.off])]
   have e1:((List.range N.ts.length).drop (j+1+1)).filter (Osd.off (j+1) (N.ts.length+j-1))=(List.range N.ts.length).drop (j+1+1):=List.filter_eq_self.2 fun i hi=>by
    have:=gu.1 hi
    simp [Osd.off]
    omega
   have e2:[N.ts.length+j-1].filter (Osd.off (j+1) (N.ts.length+j-1))=[]:=by simp [Osd.off]
   rw[e1,e2,List.append_nil]
   congr 1
theorem uH {N:Net} (h:br N=true):cn N (dr N) (bw N.ts.length (dr N))=true:=by
 have e:dr N=N.ts.length-1:=by simp [dr,h]
 rw[e]
 exact bC.2 ⟨h,rfl,(uI h _ (Nat.le_refl _)).1⟩
end Go.Proofs.YtneocijmbnhblaaGreat
