/-
 Plain: decompositions: bags, homes, tops. No condition.
-/
import Derived.Test.YtjfmckhbmdjnpaaGreatEliA
import Derived.Test.YtjfmckhbmdjnpaaGreatNetC
set_option linter.unusedSimpArgs false
set_option linter.unusedVariables false
namespace Go.Proofs.YtjfmckhbmdjnpaaGreat
open Go.RowKit Go.Lift Plain
set_option maxRecDepth 100000
def allL (a b:List Int):Bool:=decide (∀ x∈a,x∈b)
section
variable {B : List (List Int)} {P : List Int} {ts : List Ten} {l : List Int} {x : Int} {n k : Nat}
theorem AP (hax:d7 ts):x∈bg (labP ts) 100↔dimN ts x≠0:=by
 constructor
 ·intro h
  obtain⟨i,_,h2,rfl⟩:=BG h
  simpa [labP]using h2
 ·intro h
  have hx:0≤x∧x≤99:=by
   by_cases hc:0≤x∧x≤99
   ·exact hc
   ·exact absurd (H4 hax hc) h
  simp only[bg,List.mem_map,List.mem_filter,List.mem_range]
  refine⟨x.toNat,⟨by omega, ?_⟩,by omega⟩
  have:((x.toNat:Nat):Int)=x:=by omega
  simpa [labP,this]using h
theorem ou (h:dimN ts x≠0):∃ t∈ts,x∈t.labels:=by
 by_cases hc:∃ t∈ts,x∈t.labels
 ·exact hc
 ·exact absurd (tT fun t ht hx=>hc ⟨t,ht,hx⟩) h
end
structure DSz (m:Nat) (B:List (List Int)) (P:List Int):Prop where
 b:B.length≤m
 e:∀ b∈B,Sz m b
 p:Sz m P
def decA (B:List (List Int)) (P:List Int):AV:=.agg [.d (lists B),.d (ints P)]
attribute [go_sem] decA
set_option maxRecDepth 100000
section
variable {L : List (List Int)} {k : Nat}
end
set_option maxRecDepth 100000
theorem dh {xs:List Int} {x:Int} (h:x∉xs):bB xs x<0:=by rw[gE h];omega
theorem Jm {a b:List Int} {k:Nat} (hk:k<a.length) (h:a[k]∉b):allL a b=false:=decide_eq_false fun hh=>h (hh _ (List.getElem_mem hk))
theorem EQ {a b:List Int} {k:Nat} (hk:k<a.length) (h:a[k]∈b) (hi:∀ x∈a.take k,x∈b):∀ x∈a.take (k+1),x∈b:=fun x hx=>by
 rw[bb hk]at hx
 rcases List.mem_append.1 hx with hx | hx
 ·exact hi x hx
 ·simp only[List.mem_singleton]at hx
  subst hx
  exact h
theorem Do {a b:List Int} (ha:a.length≤1048576) (hb:b.length≤1048576):Does Tryz.prog 59 [.d (ints a),.d (ints b)] [] (.d (.bool (allL a b))) []:=by
 (refine spec_of (by kernel_rfl) Tryz.func59 s5 (fnOk (nb rfl) ?_);unfold n8)
 (simp only[Nat.reduceSub,Zl,zn,Nat.reduceAdd,zF];try simp only[af]);(simp only[go_sem,seval,reduceCtorEq,List.replicate])
 have hI0:∀ x∈a.take 0,x∈b:=fun x hx=>by simp at hx
 refine bG (a.length) (mkB 18 261200) (fun k=>∀ x∈a.take k,x∈b) (fun k=>[(9,.d (.int k))]) (fun k=>[]) (hi:=hI0) (h1:=by first | (simp only[go_sem,seval,reduceCtorEq,nz,na,n1];first | done | rfl) | rfl) (h2:=by first | (simp only[go_sem,seval,reduceCtorEq,nz,na,n1];first | done | rfl) | rfl) (hr:=fun k hk hi=> ?_)
 unfold lr
 by_cases hlt:k<a.length
 ·have d1:(k:Int)<a.length:=by omega
  have g:a[k]? =some a[k]:=zg hlt
  simp(disch:=omega) only[go_sem,seval,reduceCtorEq,d1,g]
  (refine zC (fo (xs:=b) (x:=a[k]) (by omega)) ?_)
  cases hh:has b a[k]
  ·have e:=Jm hlt (bK.1 hh)
   simp(disch:=omega) only[go_sem,seval,reduceCtorEq,hh,e]
   (refine zE ?_ ?_<;>try simp only[go_sem,seval,reduceCtorEq])
  ·have hI:=EQ hlt (aI.1 hh) hi
   simp(disch:=omega) only[go_sem,seval,reduceCtorEq,hh]
   (refine NextI.drop (mkB 18 261200) (by omega) (hI) (h1:= ?_) (h2:= ?_)<;>first | (simp only[go_sem,seval,reduceCtorEq,nz,na,n1];first | done | rfl) | rfl | skip)
 ·have d1:¬ (k:Int)<a.length:=by omega
  rw[zt (by omega)]at hi
  have e:allL a b=true:=decide_eq_true hi
  simp(disch:=omega) only[go_sem,seval,reduceCtorEq,d1,e]
  (refine zE ?_ ?_<;>try simp only[go_sem,seval,reduceCtorEq])
end Go.Proofs.YtjfmckhbmdjnpaaGreat
