/-
 Contracts: tensors stacked. No condition.
-/
import Derived.Test.YtjfmckhbmdjnpaaGreatMgDecompositionsA
import Derived.Test.YtjfmckhbmdjnpaaGreatConM
import Derived.Test.YtjfmckhbmdjnpaaGreatNetB
import Derived.Test.YtjfmckhbmdjnpaaGreatLiftI
set_option linter.unusedSimpArgs false
set_option linter.unusedVariables false
namespace Go.Proofs.YtjfmckhbmdjnpaaGreat
open Go.RowKit Go.Lift Plain
set_option maxRecDepth 100000
theorem wC (k e:Nat) (ls:List D) (xs:List Int):mapL (fzG k e ls) (iv xs)=iv xs:=by
 rw[dz,iv,List.map_map]
 rfl
theorem uX {P:Program} {f:FuncId} {args:List AV} {t:Ten} {b:Bool} (h:Does P f args [] (.tup [ownT 0 t,.d (.bool b)]) (stoF t)):Does P f args [] (.tup [tenA t,.d (.bool b)]) []:=by
 have tk:∀ xs:List Int,List.take xs.length (dv xs)=dv xs:=fun xs=>zt (by rw[uU];exact Nat.le_refl _)
 have h1:Wk 0 [.tup [ownT 0 t,.d (.bool b)]] (stoF t) [.tup [tenA t,.d (.bool b)]] [none,none,none]:=by
  refine(Wk.freeze 0 (R:=⟨1,false,iv t.labels⟩) (ls:=dv t.labels) (Nat.le_refl _) rfl cJ (e':=[.tup [.agg [.d (ints t.labels),.own 1 0 t.dims.length,.own 2 0 t.data.length],.d (.bool b)]]) (σ':=[none,some ⟨1,false,iv t.dims⟩,some ⟨1,false,iv t.data⟩]) ?_ ?_).trans ?_
  ·simp [mapL,mapA,fzG,ownT,ints,tk]
  ·simp [frz,stoF,wC,fzG]
  refine(Wk.freeze 1 (R:=⟨1,false,iv t.dims⟩) (ls:=dv t.dims) (Nat.zero_le _) rfl cJ (e':=[.tup [.agg [.d (ints t.labels),.d (ints t.dims),.own 2 0 t.data.length],.d (.bool b)]]) (σ':=[none,none,some ⟨1,false,iv t.data⟩]) ?_ ?_).trans ?_
  ·simp [mapL,mapA,fzG,ints,tk]
  ·simp [frz,wC,fzG]
  refine Wk.freeze 2 (R:=⟨1,false,iv t.data⟩) (ls:=dv t.data) (Nat.zero_le _) rfl cJ ?_ ?_
  ·simp [mapL,mapA,fzG,ints,tk,tenA]
  ·simp [frz,wC,fzG]
 have h2:=h.wk0 h1
 have:at_ [none,none,none]=at_ []:=by
  funext k
  match k with
  | 0=>rfl
  | 1=>rfl
  | 2=>rfl
  | k+3=>simp [at_]
 unfold Does at*
 rw[this]at h2
 exact h2
def rowD (ts:List Ten):List AV:=(tcs ts).map .d
def z3:List AV:=[.nil,.nil,.nil]
section
variable {ts : List Ten} {n i k : Nat} {t : Ten}
theorem eG:(rowD ts).length=ts.length*3:=by simp [rowD,pT]
theorem mG (a b:List Ten):rowD (a++b)=rowD a++rowD b:=by simp [rowD,x7]
theorem E5 (t:Ten):rowD [t]=[.d (ints t.labels),.d (ints t.dims),.d (ints t.data)]:=rfl
theorem ym (h:ts[k]? =some t):((rowD ts).drop (k*3)).take 3=[.d (ints t.labels),.d (ints t.dims),.d (ints t.data)]:=by
 rw[rowD, ← List.map_drop, ← List.map_take,fj h]
 rfl
end
theorem E6 (ρ:Nat→Option Nat) (ts:List Ten):rnL ρ (rowD ts)=rowD ts:=by
 rw[aP,rowD,List.map_map]
 rfl
attribute [go_sem] E6 eG
section
variable {wd n q : Nat} {ts : List Ten}
end
def hd0 (ts:List Ten):Ten:=ts.getD 0 ⟨[],[],[]⟩
def skA (r:Rg) (ts:List Ten):List Ten:=ts.map (alR r (hd0 ts))
structure SkOk (r:Rg) (ts:List Ten) (wd n:Nat):Prop where
 w:ah r=wd
 wb:1≤wd∧wd≤6
 p:aa (hd0 ts).dims=n
 nb:1≤n∧n≤4096
 len:1≤ts.length∧ts.length≤8
 ax:axOk (hd0 ts).labels (hd0 ts).dims
 dl:∀ t∈skA r ts,t.data.length=n*wd
end Go.Proofs.YtjfmckhbmdjnpaaGreat
