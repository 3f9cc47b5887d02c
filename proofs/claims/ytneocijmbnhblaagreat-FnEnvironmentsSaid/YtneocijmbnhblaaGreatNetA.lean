/-
 Networks as plain data. No condition.
-/
import Derived.Test.YtneocijmbnhblaaGreatShapes
import Derived.Test.YtneocijmbnhblaaGreatLiftG
set_option linter.unusedSimpArgs false
set_option linter.unusedVariables false
namespace Go.Proofs.YtneocijmbnhblaaGreat
open Go.RowKit Go.Lift Plain
def tcs:List Ten→List D
 | []=>[]
 | t :: l=>ints t.labels :: ints t.dims :: ints t.data :: tcs l
def tcA (ts:List Ten):List AV:=(tcs ts).map .tr
def tens (ts:List Ten):D:=.sl ts.length (tcs ts)
structure Net where
 k:Int
 p:Int
 n:Int
 ts:List Ten
 os:List Int
def Net.rg (N:Net):Rg:=⟨N.k,N.p,N.n⟩
def netA (N:Net):AV:=.agg [.d (.int N.k),.d (.int N.p),.d (.int N.n),.d (tens N.ts),.d (ints N.os)]
def ownN (k:Nat) (N:Net):AV:=.agg [.d (.int N.k),.d (.int N.p),.d (.int N.n),.own k 0 N.ts.length,.own (k+1) 0 N.os.length]
def stoN (N:Net):Sto:=[some ⟨3,true,tcA N.ts⟩,some ⟨1,true,iv N.os⟩]
def ES (N:Net):Sto:=[some ⟨3,false,tcA N.ts⟩,some ⟨1,false,iv N.os⟩]
section
variable {ts : List Ten}
theorem lH:∀ {ts:List Ten},(tcs ts).length=ts.length*3
 | []=>rfl
 | t :: l=>by simp [tcs,lH (ts:=l)];omega
theorem pd:(tcA ts).length=ts.length*3:=by simp [tcA,lH]
theorem sM:∀ (a b:List Ten),tcs (a++b)=tcs a++tcs b
 | [],b=>rfl
 | t :: l,b=>by simp [tcs,sM l b]
theorem pe (a b:List Ten):tcA (a++b)=tcA a++tcA b:=by simp [tcA,sM]
theorem pc (t:Ten):tcA [t]=[.tr (ints t.labels),.tr (ints t.dims),.tr (ints t.data)]:=rfl
theorem uf:∀ {ts:List Ten} {k:Nat} {t:Ten},ts[k]? =some t→(tcs ts).drop (k*3)=ints t.labels :: ints t.dims :: ints t.data :: tcs (ts.drop (k+1))
 | [],_,_,h=>by simp at h
 | x :: l,0,t,h=>by simp at h;subst h;simp [tcs]
 | x :: l,k+1,t,h=>by
  have:=uf (ts:=l) (k:=k) (t:=t) (by simpa using h)
  rw[tcs,show (k+1)*3=k*3+3 by omega]
  simpa using this
theorem dd {k:Nat} {t:Ten} (h:ts[k]? =some t):((tcs ts).drop (k*3)).take 3=[ints t.labels,ints t.dims,ints t.data]:=by rw[uf h];rfl
theorem ug:(tcA ts).take (ts.length*3)=tcA ts:=List.take_of_length_le (by rw[pd];omega)
theorem lG:(tcs ts).take (ts.length*3)=tcs ts:=List.take_of_length_le (by rw[lH];omega)
theorem C6 (ρ:Nat→Option Nat):rnL ρ (tcA ts)=tcA ts:=by
 rw[aS,tcA,List.map_map]
 exact List.map_congr_left fun x _=>rfl
theorem CZ (gv:List Nat) (M:List Nat):cgL gv M (tcA ts)=tcA ts:=by
 rw[ki,tcA,List.map_map]
 exact List.map_congr_left fun x _=>rfl
theorem jh:cL (tcA ts)=some (tcs ts):=by
 unfold tcA
 induction tcs ts with
 | nil=>rfl
 | cons x l ih=>simp only[List.map_cons,cL,oM,ih]
theorem lI:tcA []=[]:=rfl
end
attribute [go_sem] pd lH ug lG C6 CZ jh lI tens netA ownN stoN ES
end Go.Proofs.YtneocijmbnhblaaGreat
