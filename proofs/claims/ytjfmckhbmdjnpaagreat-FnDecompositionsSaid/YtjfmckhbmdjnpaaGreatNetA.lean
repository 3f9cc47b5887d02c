/-
 Networks as plain data. No condition.
-/
import Derived.Test.YtjfmckhbmdjnpaaGreatShapes
import Derived.Test.YtjfmckhbmdjnpaaGreatLiftG
set_option linter.unusedSimpArgs false
set_option linter.unusedVariables false
namespace Go.Proofs.YtjfmckhbmdjnpaaGreat
open Go.RowKit Go.Lift Plain
def tcs:List Ten→List D
 | []=>[]
 | t :: l=>ints t.labels :: ints t.dims :: ints t.data :: tcs l
def tcA (ts:List Ten):List AV:=(tcs ts).map .tr
def tens (ts:List Ten):D:=.sl ts.length (tcs ts)
structure Net where
 k:Int
 p:Int
 n:Int
 ts:List Ten
 os:List Int
def Net.rg (N:Net):Rg:=⟨N.k,N.p,N.n⟩
def netA (N:Net):AV:=.agg [.d (.int N.k),.d (.int N.p),.d (.int N.n),.d (tens N.ts),.d (ints N.os)]
def ownN (k:Nat) (N:Net):AV:=.agg [.d (.int N.k),.d (.int N.p),.d (.int N.n),.own k 0 N.ts.length,.own (k+1) 0 N.os.length]
def stoN (N:Net):Sto:=[some ⟨3,true,tcA N.ts⟩,some ⟨1,true,iv N.os⟩]
def JD (N:Net):Sto:=[some ⟨3,false,tcA N.ts⟩,some ⟨1,false,iv N.os⟩]
section
variable {ts : List Ten}
theorem pT:∀ {ts:List Ten},(tcs ts).length=ts.length*3
 | []=>rfl
 | t :: l=>by simp [tcs,pT (ts:=l)];omega
theorem x9:(tcA ts).length=ts.length*3:=by simp [tcA,pT]
theorem x7:∀ (a b:List Ten),tcs (a++b)=tcs a++tcs b
 | [],b=>rfl
 | t :: l,b=>by simp [tcs,x7 l b]
theorem AX (a b:List Ten):tcA (a++b)=tcA a++tcA b:=by simp [tcA,x7]
theorem AW (t:Ten):tcA [t]=[.tr (ints t.labels),.tr (ints t.dims),.tr (ints t.data)]:=rfl
theorem y7:∀ {ts:List Ten} {k:Nat} {t:Ten},ts[k]? =some t→(tcs ts).drop (k*3)=ints t.labels :: ints t.dims :: ints t.data :: tcs (ts.drop (k+1))
 | [],_,_,h=>by simp at h
 | x :: l,0,t,h=>by simp at h;subst h;simp [tcs]
 | x :: l,k+1,t,h=>by
  have:=y7 (ts:=l) (k:=k) (t:=t) (by simpa using h)
  rw[tcs,show (k+1)*3=k*3+3 by omega]
  simpa using this
theorem fj {k:Nat} {t:Ten} (h:ts[k]? =some t):((tcs ts).drop (k*3)).take 3=[ints t.labels,ints t.dims,ints t.data]:=by rw[y7 h];rfl
theorem y8:(tcA ts).take (ts.length*3)=tcA ts:=zt (by rw[x9];omega)
theorem pS:(tcs ts).take (ts.length*3)=tcs ts:=zt (by rw[pT];omega)
theorem Gm (ρ:Nat→Option Nat):rnL ρ (tcA ts)=tcA ts:=by
 rw[aP,tcA,List.map_map]
 exact List.map_congr_left fun x _=>rfl
theorem Hr (gv:List Nat) (M:List Nat):cgL gv M (tcA ts)=tcA ts:=by
 rw[pH,tcA,List.map_map]
 exact List.map_congr_left fun x _=>rfl
theorem pI:cY (tcA ts)=some (tcs ts):=by
 unfold tcA
 induction tcs ts with
 | nil=>rfl
 | cons x l ih=>simp only[List.map_cons,cY,qM,ih]
theorem x8:tcA []=[]:=rfl
end
attribute [go_sem] x9 pT y8 pS Gm Hr pI x8 tens netA ownN stoN JD
end Go.Proofs.YtjfmckhbmdjnpaaGreat
