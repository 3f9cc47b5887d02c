/-
 Contracts: tensors stacked. No condition.
-/
import Derived.Test.YtobhmajhachnaaaGreatDoorMgJobsA
import Derived.Test.YtobhmajhachnaaaGreatDoorCoD
import Derived.Test.YtobhmajhachnaaaGreatDoorNetB
import Derived.Test.YtobhmajhachnaaaGreatDoorLiftI
set_option linter.unusedSimpArgs false
set_option linter.unusedVariables false
namespace Go.Proofs.YtobhmajhachnaaaGreatDoor
open Go.RowKit Go.Lift Plain
set_option maxRecDepth 100000
theorem vl(k e:Nat)(ls:List D)(xs:List Int):mapL (fzG k e ls) (iv xs)=iv xs:=by
 rw[dh,iv,List.map_map]
 rfl
theorem oX{P:Program}{f:FuncId}{args:List AV}{t:Ten}{b:Bool}(h:Does P f args [] (.tup [ownT 0 t,.d (.bool b)]) (stoF t)):Does P f args [] (.tup [tenA t,.d (.bool b)]) []:=by
 have tk:∀xs:List Int,List.take xs.length (dv xs)=dv xs:=fun xs=>zt (by rw[cM];exact Nat.le_refl _)
 have h1:Wk 0 [.tup [ownT 0 t,.d (.bool b)]] (stoF t) [.tup [tenA t,.d (.bool b)]] [none,none,none]:=by
  refine(Wk.freeze 0 (R:=⟨1,false,iv t.labels⟩) (ls:=dv t.labels) (Nat.le_refl _) rfl bn (e':=[.tup [.agg [.d (ints t.labels),.own 1 0 t.dims.length,.own 2 0 t.data.length],.d (.bool b)]]) (σ':=[none,some ⟨1,false,iv t.dims⟩,some ⟨1,false,iv t.data⟩]) ?_ ?_).trans ?_
  ·simp [mapL,mapA,fzG,ownT,ints,tk]
  ·simp [frz,stoF,vl,fzG]
  refine(Wk.freeze 1 (R:=⟨1,false,iv t.dims⟩) (ls:=dv t.dims) (Nat.zero_le _) rfl bn (e':=[.tup [.agg [.d (ints t.labels),.d (ints t.dims),.own 2 0 t.data.length],.d (.bool b)]]) (σ':=[none,none,some ⟨1,false,iv t.data⟩]) ?_ ?_).trans ?_
  ·simp [mapL,mapA,fzG,ints,tk]
  ·simp [frz,vl,fzG]
  refine Wk.freeze 2 (R:=⟨1,false,iv t.data⟩) (ls:=dv t.data) (Nat.zero_le _) rfl bn ?_ ?_
  ·simp [mapL,mapA,fzG,ints,tk,tenA]
  ·simp [frz,vl,fzG]
 have h2:=h.wk0 h1;have:at_ [none,none,none]=at_ []:=by
  funext k
  match k with
  |0=>rfl
  |1=>rfl
  |2=>rfl
  |k+3=>simp [at_]
 unfold Does at*;rw[this]at h2;exact h2
def rowD(ts:List Ten):List AV:=(tcs ts).map .d
def z3:List AV:=[.nil,.nil,.nil]
section
variable {ts : List Ten} {n i k : Nat} {t : Ten}
theorem Ha:(rowD ts).length=ts.length*3:=by simp [rowD,rT]
theorem Hb(a b:List Ten):rowD (a++b)=rowD a++rowD b:=by simp [rowD,Ap]
theorem H9(t:Ten):rowD [t]=[.d (ints t.labels),.d (ints t.dims),.d (ints t.data)]:=rfl
end
theorem Hc(ρ:Nat→Option Nat)(ts:List Ten):rnL ρ (rowD ts)=rowD ts:=by
 rw[aR,rowD,List.map_map]
 rfl
attribute [go_sem] Hc Ha
section
variable {wd n q : Nat} {ts : List Ten}
end
def hd0(ts:List Ten):Ten:=ts.getD 0 ⟨[],[],[]⟩
def skA(r:Rg)(ts:List Ten):List Ten:=ts.map (alR r (hd0 ts))
structure SkOk(r:Rg)(ts:List Ten)(wd n:Nat):Prop where
 w:af r=wd
 wb:1≤wd∧wd≤6
 p:aa (hd0 ts).dims=n
 nb:1≤n∧n≤4096
 len:1≤ts.length∧ts.length≤8
 ax:axOk (hd0 ts).labels (hd0 ts).dims
 dl:∀t∈skA r ts,t.data.length=n*wd
end Go.Proofs.YtobhmajhachnaaaGreatDoor
