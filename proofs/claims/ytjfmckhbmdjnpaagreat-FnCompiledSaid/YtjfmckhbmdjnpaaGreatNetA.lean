/-
 Networks as plain data. No condition.
-/
import Derived.Test.YtjfmckhbmdjnpaaGreatShapes
import Derived.Test.YtjfmckhbmdjnpaaGreatLiftH
set_option linter.unusedSimpArgs false
set_option linter.unusedVariables false
namespace Go.Proofs.YtjfmckhbmdjnpaaGreat
open Go.RowKit Go.Lift Plain
def tcs:List Ten→List D
 | []=>[]
 | t :: l=>ints t.labels :: ints t.dims :: ints t.data :: tcs l
def tcA (ts:List Ten):List AV:=(tcs ts).map .tr
def tens (ts:List Ten):D:=.sl ts.length (tcs ts)
structure Net where
 k:Int
 p:Int
 n:Int
 ts:List Ten
 os:List Int
def Net.rg (N:Net):Rg:=⟨N.k,N.p,N.n⟩
def netA (N:Net):AV:=.agg [.d (.int N.k),.d (.int N.p),.d (.int N.n),.d (tens N.ts),.d (ints N.os)]
def ownN (k:Nat) (N:Net):AV:=.agg [.d (.int N.k),.d (.int N.p),.d (.int N.n),.own k 0 N.ts.length,.own (k+1) 0 N.os.length]
def stoN (N:Net):Sto:=[some ⟨3,true,tcA N.ts⟩,some ⟨1,true,iv N.os⟩]
def Lp (N:Net):Sto:=[some ⟨3,false,tcA N.ts⟩,some ⟨1,false,iv N.os⟩]
section
variable {ts : List Ten}
theorem rj:∀ {ts:List Ten},(tcs ts).length=ts.length*3
 | []=>rfl
 | t :: l=>by simp [tcs,rj (ts:=l)];omega
theorem yC:(tcA ts).length=ts.length*3:=by simp [tcA,rj]
theorem yA:∀ (a b:List Ten),tcs (a++b)=tcs a++tcs b
 | [],b=>rfl
 | t :: l,b=>by simp [tcs,yA l b]
theorem Cr (a b:List Ten):tcA (a++b)=tcA a++tcA b:=by simp [tcA,yA]
theorem Cq (t:Ten):tcA [t]=[.tr (ints t.labels),.tr (ints t.dims),.tr (ints t.data)]:=rfl
theorem vj:∀ {ts:List Ten} {k:Nat} {t:Ten},ts[k]? =some t→(tcs ts).drop (k*3)=ints t.labels :: ints t.dims :: ints t.data :: tcs (ts.drop (k+1))
 | [],_,_,h=>by simp at h
 | x :: l,0,t,h=>by simp at h;subst h;simp [tcs]
 | x :: l,k+1,t,h=>by
  have:=vj (ts:=l) (k:=k) (t:=t) (by simpa using h)
  rw[tcs,show (k+1)*3=k*3+3 by omega]
  simpa using this
theorem iu {k:Nat} {t:Ten} (h:ts[k]? =some t):((tcs ts).drop (k*3)).take 3=[ints t.labels,ints t.dims,ints t.data]:=by rw[vj h];rfl
theorem HG {k:Nat} {t:Ten} (h:ts[k]? =some t):(tcs ts)[k*3]? =some (ints t.labels)∧(tcs ts)[k*3+1]? =some (ints t.dims)∧(tcs ts)[k*3+2]? =some (ints t.data):=by
 have:=vj h
 have g:∀ j,(tcs ts)[k*3+j]? =((tcs ts).drop (k*3))[j]? :=fun j=>by rw[List.getElem?_drop]
 have g0:=g 0
 rw[Nat.add_zero]at g0
 rw[g0,g 1,g 2,this]
 exact⟨rfl,rfl,rfl⟩
theorem A9:(tcA ts).take (ts.length*3)=tcA ts:=zt (by rw[yC];omega)
theorem A8:(tcs ts).take (ts.length*3)=tcs ts:=zt (by rw[rj];omega)
theorem I6 (ρ:Nat→Option Nat):rnL ρ (tcA ts)=tcA ts:=by
 rw[aJ,tcA,List.map_map]
 exact List.map_congr_left fun x _=>rfl
theorem Jd (gv:List Nat) (M:List Nat):cgL gv M (tcA ts)=tcA ts:=by
 rw[r6,tcA,List.map_map]
 exact List.map_congr_left fun x _=>rfl
theorem r7:cY (tcA ts)=some (tcs ts):=by
 unfold tcA
 induction tcs ts with
 | nil=>rfl
 | cons x l ih=>simp only[List.map_cons,cY,uq,ih]
theorem yB:tcA []=[]:=rfl
end
attribute [go_sem] yC rj A9 A8 I6 Jd r7 yB tens netA ownN stoN Lp
end Go.Proofs.YtjfmckhbmdjnpaaGreat
