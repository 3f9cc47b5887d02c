/-
 Networks as plain data. No condition.
-/
import Derived.Test.YtneocijmbnhblaaGreatShapes
import Derived.Test.YtneocijmbnhblaaGreatLiftH
set_option linter.unusedSimpArgs false
set_option linter.unusedVariables false
namespace Go.Proofs.YtneocijmbnhblaaGreat
open Go.RowKit Go.Lift Plain
def tcs:List Ten→List D
 | []=>[]
 | t :: l=>ints t.labels :: ints t.dims :: ints t.data :: tcs l
def tcA (ts:List Ten):List AV:=(tcs ts).map .tr
def tens (ts:List Ten):D:=.sl ts.length (tcs ts)
structure Net where
 k:Int
 p:Int
 n:Int
 ts:List Ten
 os:List Int
def Net.rg (N:Net):Rg:=⟨N.k,N.p,N.n⟩
def netA (N:Net):AV:=.agg [.d (.int N.k),.d (.int N.p),.d (.int N.n),.d (tens N.ts),.d (ints N.os)]
def ownN (k:Nat) (N:Net):AV:=.agg [.d (.int N.k),.d (.int N.p),.d (.int N.n),.own k 0 N.ts.length,.own (k+1) 0 N.os.length]
def stoN (N:Net):Sto:=[some ⟨3,true,tcA N.ts⟩,some ⟨1,true,iv N.os⟩]
def Gx (N:Net):Sto:=[some ⟨3,false,tcA N.ts⟩,some ⟨1,false,iv N.os⟩]
section
variable {ts : List Ten}
theorem lV:∀ {ts:List Ten},(tcs ts).length=ts.length*3
 | []=>rfl
 | t :: l=>by simp [tcs,lV (ts:=l)];omega
theorem pu:(tcA ts).length=ts.length*3:=by simp [tcA,lV]
theorem u4:∀ (a b:List Ten),tcs (a++b)=tcs a++tcs b
 | [],b=>rfl
 | t :: l,b=>by simp [tcs,u4 l b]
theorem pv (a b:List Ten):tcA (a++b)=tcA a++tcA b:=by simp [tcA,u4]
theorem pt (t:Ten):tcA [t]=[.tr (ints t.labels),.tr (ints t.dims),.tr (ints t.data)]:=rfl
theorem vi:∀ {ts:List Ten} {k:Nat} {t:Ten},ts[k]? =some t→(tcs ts).drop (k*3)=ints t.labels :: ints t.dims :: ints t.data :: tcs (ts.drop (k+1))
 | [],_,_,h=>by simp at h
 | x :: l,0,t,h=>by simp at h;subst h;simp [tcs]
 | x :: l,k+1,t,h=>by
  have:=vi (ts:=l) (k:=k) (t:=t) (by simpa using h)
  rw[tcs,show (k+1)*3=k*3+3 by omega]
  simpa using this
theorem fx {k:Nat} {t:Ten} (h:ts[k]? =some t):((tcs ts).drop (k*3)).take 3=[ints t.labels,ints t.dims,ints t.data]:=by rw[vi h];rfl
theorem vj:(tcA ts).take (ts.length*3)=tcA ts:=zt (by rw[pu];omega)
theorem vh:(tcs ts).take (ts.length*3)=tcs ts:=zt (by rw[lV];omega)
theorem DF (ρ:Nat→Option Nat):rnL ρ (tcA ts)=tcA ts:=by
 rw[aO,tcA,List.map_map]
 exact List.map_congr_left fun x _=>rfl
theorem EC (gv:List Nat) (M:List Nat):cgL gv M (tcA ts)=tcA ts:=by
 rw[kz,tcA,List.map_map]
 exact List.map_congr_left fun x _=>rfl
theorem lN:du (tcA ts)=some (tcs ts):=by
 unfold tcA
 induction tcs ts with
 | nil=>rfl
 | cons x l ih=>simp only[List.map_cons,du,oW,ih]
theorem lW:tcA []=[]:=rfl
end
attribute [go_sem] pu lV vj vh DF EC lN lW tens netA ownN stoN Gx
end Go.Proofs.YtneocijmbnhblaaGreat
