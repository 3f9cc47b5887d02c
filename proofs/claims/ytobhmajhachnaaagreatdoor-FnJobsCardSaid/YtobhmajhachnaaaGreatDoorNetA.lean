/-
 Networks as plain data. No condition.
-/
import Derived.Test.YtobhmajhachnaaaGreatDoorShapes
import Derived.Test.YtobhmajhachnaaaGreatDoorLiftH
set_option linter.unusedSimpArgs false
set_option linter.unusedVariables false
namespace Go.Proofs.YtobhmajhachnaaaGreatDoor
open Go.RowKit Go.Lift Plain
def tcs:List Ten→List D
 | []=>[]
 |t :: l=>ints t.labels :: ints t.dims :: ints t.data :: tcs l
def tcA(ts:List Ten):List AV:=(tcs ts).map .tr
def tens(ts:List Ten):D:=.sl ts.length (tcs ts)
structure Net where
 k:Int
 p:Int
 n:Int
 ts:List Ten
 os:List Int
def Net.rg(N:Net):Rg:=⟨N.k,N.p,N.n⟩
def netA(N:Net):AV:=.agg [.d (.int N.k),.d (.int N.p),.d (.int N.n),.d (tens N.ts),.d (ints N.os)]
def ownN(k:Nat)(N:Net):AV:=.agg [.d (.int N.k),.d (.int N.p),.d (.int N.n),.own k 0 N.ts.length,.own (k+1) 0 N.os.length]
def stoN(N:Net):Sto:=[some ⟨3,true,tcA N.ts⟩,some ⟨1,true,iv N.os⟩]
def N3(N:Net):Sto:=[some ⟨3,false,tcA N.ts⟩,some ⟨1,false,iv N.os⟩]
section
variable {ts : List Ten}
theorem rT:∀{ts:List Ten},(tcs ts).length=ts.length*3
 | []=>rfl
 |t :: l=>by simp [tcs,rT (ts:=l)];omega
theorem pZ:(tcA ts).length=ts.length*3:=by simp [tcA,rT]
theorem Ap:∀(a b:List Ten),tcs (a++b)=tcs a++tcs b
 | [],b=>rfl
 |t :: l,b=>by simp [tcs,Ap l b]
theorem kw(a b:List Ten):tcA (a++b)=tcA a++tcA b:=by simp [tcA,Ap]
theorem kv(t:Ten):tcA [t]=[.tr (ints t.labels),.tr (ints t.dims),.tr (ints t.data)]:=rfl
theorem Bt:∀{ts:List Ten} {k:Nat} {t:Ten},ts[k]? =some t→(tcs ts).drop (k*3)=ints t.labels :: ints t.dims :: ints t.data :: tcs (ts.drop (k+1))
 | [],_,_,h=>by simp at h
 |x :: l,0,t,h=>by simp at h;subst h;simp [tcs]
 |x :: l,k+1,t,h=>by
  have:=Bt (ts:=l) (k:=k) (t:=t) (by simpa using h);rw[tcs,show (k+1)*3=k*3+3 by omega];simpa using this
theorem fj{k:Nat}{t:Ten}(h:ts[k]? =some t):((tcs ts).drop (k*3)).take 3=[ints t.labels,ints t.dims,ints t.data]:=by rw[Bt h];rfl
theorem Bu:(tcA ts).take (ts.length*3)=tcA ts:=zt (by rw[pZ];omega)
theorem wx:(tcs ts).take (ts.length*3)=tcs ts:=zt (by rw[rT];omega)
theorem JY(ρ:Nat→Option Nat):rnL ρ (tcA ts)=tcA ts:=by
 rw[aR,tcA,List.map_map];exact List.map_congr_left fun x _=>rfl
theorem KU(gv:List Nat)(M:List Nat):cgL gv M (tcA ts)=tcA ts:=by
 rw[p6,tcA,List.map_map];exact List.map_congr_left fun x _=>rfl
theorem nh:cB (tcA ts)=some (tcs ts):=by
 unfold tcA
 induction tcs ts with
 |nil=>rfl
 |cons x l ih=>simp only[List.map_cons,cB,tt,ih]
theorem mO:tcA []=[]:=rfl
end
attribute [go_sem] pZ rT Bu wx JY KU nh mO tens netA ownN stoN N3
end Go.Proofs.YtobhmajhachnaaaGreatDoor
