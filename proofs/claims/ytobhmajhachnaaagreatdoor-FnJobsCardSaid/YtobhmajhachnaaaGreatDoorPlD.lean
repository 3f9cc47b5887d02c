/-
 Plain: decompositions: bags, homes, tops. No condition.
-/
import Derived.Test.YtobhmajhachnaaaGreatDoorEliA
import Derived.Test.YtobhmajhachnaaaGreatDoorNetC
set_option linter.unusedSimpArgs false
set_option linter.unusedVariables false
namespace Go.Proofs.YtobhmajhachnaaaGreatDoor
open Go.RowKit Go.Lift Plain
set_option maxRecDepth 100000
section
variable {B : List (List Int)} {P : List Int} {ts : List Ten} {l : List Int} {x : Int} {n k : Nat}
theorem Cd(hax:cQ ts):x∈aX (labP ts) 100↔dimN ts x≠0:=by
 constructor
 ·intro h
  obtain⟨i,_,h2,rfl⟩:=rh h;simpa [labP]using h2
 ·intro h
  have hx:0≤x∧x≤99:=by
   by_cases hc:0≤x∧x≤99
   ·exact hc
   ·exact absurd (xP hax hc) h
  simp only[aX,List.mem_map,List.mem_filter,List.mem_range];refine⟨x.toNat,⟨by omega, ?_⟩,by omega⟩;have:((x.toNat:Nat):Int)=x:=by omega
  simpa [labP,this]using h
theorem oF(h:dimN ts x≠0):∃t∈ts,x∈t.labels:=by
 by_cases hc:∃t∈ts,x∈t.labels
 ·exact hc
 ·exact absurd (uQ fun t ht hx=>hc ⟨t,ht,hx⟩) h
end
structure DSz(m:Nat)(B:List (List Int))(P:List Int):Prop where
 b:B.length≤m
 e:∀b∈B,Sz m b
 p:Sz m P
def decA(B:List (List Int))(P:List Int):AV:=.agg [.d (lists B),.d (ints P)]
attribute [go_sem] decA
end Go.Proofs.YtobhmajhachnaaaGreatDoor
