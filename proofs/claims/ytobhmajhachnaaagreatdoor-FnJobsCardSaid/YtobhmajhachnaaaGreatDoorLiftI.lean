/-
 LIFT: slices at the end of a row. No condition.
-/
import Derived.Test.YtobhmajhachnaaaGreatDoorLiftH
namespace Go.Lift
open Go.RowKit
theorem Wk.drG{m0:Nat}(ids:List Nat)(m:Nat){e:List AV}{σ:Sto}(hm:m0≤m)(hl:m≤σ.length)(hn:ids.Nodup)(hi:(ids.all fun k=>decide (m≤k))=true):Wk m0 e σ (Lift.dropG (nrmR m ids) [] e) (renS m ids σ):=Wk.dropG [] ids m hm hl hn hi rfl rfl
theorem Wk.ad3s{m0 m:Nat}(dead:List Bool)(k z q:Nat)(g:Bool){τ:Sto}{A:List AV}{e:List AV}{n0 n1 n2:Nat}{r0 r1 r2:Root}{l0 l1 l2:List D}(hm:m0≤m)(hτ:τ.length=m)(hA:A.length=q)
  (hk:τ[k]? =some (some ⟨z,g,A++[.own m 0 n0,.own (m+1) 0 n1,.own (m+2) 0 n2]⟩))
  (t0:treL r0.cells=some l0) (t1:treL r1.cells=some l1) (t2:treL r2.cells=some l2) (e0:l0.length=n0*r0.e) (e1:l1.length=n1*r1.e) (e2:l2.length=n2*r2.e)
  (f1:∀ρ,rnL ρ r1.cells=r1.cells) (f2:∀ρ,rnL ρ r2.cells=r2.cells):
  Wk m0 e (τ++[some r0,some r1,some r2]) (cf m dead e) (fu m (τ.set k (some ⟨z,g,A++[.tr (.sl n0 l0),.tr (.sl n1 l1),.tr (.sl n2 l2)]⟩))):=by
 have:=Wk.ad3 (m0:=m0) (B:=[]) (e:=e) dead k z q g hm hτ hA (by rw[List.append_nil];exact hk) t0 t1 t2 e0 e1 e2 f1 f2
 rwa [List.append_nil]at this
theorem JX(ρ:Nat→Option Nat)(a b:List AV):rnL ρ (a++b)=rnL ρ a++rnL ρ b:=by rw[aR,aR,aR,List.map_append]
theorem xK(m:Nat):∀e:List AV,cf m [] e=rnL (cut m) e
 | []=>rfl
 |x :: l=>by rw[cf,rnL,xK m l]
attribute [go_sem] JX xK
def Lf(σ:Sto):Prop:=∀i j k' n,σ.map (Option.map fun R=>{ R with cells:=mapL (spG i j k' n) R.cells })=σ
theorem Lf.at{σ:Sto}(h:Lf σ){k:Nat}{R:Root}(hk:σ[k]? =some (some R))(i j k' n:Nat):mapL (spG i j k' n) R.cells=R.cells:=by
 have h1:=congrArg (fun l=>l[k]?) (h i j k' n);simp only[List.getElem?_map,hk,Option.map_some,zj]at h1;exact congrArg Root.cells h1
end Go.Lift
namespace Go.Lift
open Go.RowKit
theorem Next.wk{m0 n k:Nat}{E:Nat→List AV}{S:Nat→Sto}{e e':List AV}{σ σ':Sto}(h:Wk m0 e σ e' σ')(h':Next m0 n E S k e' σ'):Next m0 n E S k e σ:=by
 obtain⟨m',e2,σ2,h1,h2,h3⟩:=h';exact⟨m',e2,σ2,h1,h.trans h2,h3⟩
theorem Does.wk0{P:Program}{f:FuncId}{args:List AV}{res res':AV}{σ1 σ1':Sto}(h:Does P f args [] res σ1)(hw:Wk 0 [res] σ1 [res'] σ1'):Does P f args [] res' σ1':=by
 intro γ φ w vals hS hr
 refine(h γ φ w vals hS hr).mono fun en w' hq=> ?_
 obtain⟨v,γ',φ',rfl,hK,h1,h2,h3⟩:=hq;obtain⟨γ2,φ2,hK2,hS2,hE2,_⟩:=hw γ' φ' w' [v] h2 (by simp only[RelL];exact⟨_,_,rfl,h3,rfl⟩);refine⟨v,γ2,φ2,rfl,hK.trans hK2,fun k R e=>by simp [at_]at e,hS2, ?_⟩;simp only[RelL]at hE2;obtain⟨v',vs',e,hr',rfl⟩:=hE2;simp only[List.cons.injEq,and_true]at e;subst e;exact hr'
theorem Ja:at_ [none]=at_ []:=by
 funext k
 cases k<;>simp [at_]
theorem Does.noneS{P:Program}{f:FuncId}{args:List AV}{res:AV}(h:Does P f args [] res [none]):Does P f args [] res []:=by
 unfold Does at*;rw[Ja]at h;exact h
theorem Does.fz{P:Program}{f:FuncId}{args:List AV}{n e:Nat}{g:Bool}{c:List AV}{ls:List D}(h:Does P f args [] (.own 0 0 n) [some ⟨e,g,c⟩])(hc:cB c=some ls)(hn:ls.length=n*e):Does P f args [] (.d (.sl n ls)) []:=by
 refine Does.noneS (Does.wk0 h (Wk.freeze 0 (R:=⟨e,g,c⟩) (ls:=ls) (Nat.le_refl _) rfl hc ?_ rfl));simp only[mapL,mapA,fzG,if_true,List.drop_zero];rw[zt (by rw[hn];exact Nat.le_refl _)]
theorem Does.fzI{P:Program}{f:FuncId}{args:List AV}{g:Bool}{xs:List Int}(h:Does P f args [] (.own 0 0 xs.length) [some ⟨1,g,iv xs⟩]):Does P f args [] (.d (ints xs)) []:=Does.fz h bn (by rw[cM,Nat.mul_one])
theorem Wk.nilD{m0:Nat}(t:Nat)(e:List AV)(σ:Sto)(h:e[t]? =some .nil):Wk m0 e σ (e.set t (.d (.sl 0 []))) σ:=by
 intro γ φ w vs hS hE;refine⟨γ,φ,Kst.refl _ _,hS,RelL.of_get (by have:=hE.len;simpa using this) fun i x hx=> ?_,fun k R _ hk hg=>⟨Stay.refl,R,hk,hg⟩⟩;rw[List.getElem?_set]at hx;split at hx
 ·rename_i hti
  subst hti;split at hx
  ·simp only[zj]at hx
   subst hx;obtain⟨v,hv,hr⟩:=hE.get h;refine⟨v,hv, ?_⟩;rw[dX hr];simp only[Rel];unfold Rd;exact⟨none,0,rfl,Nat.le_refl _,.inl ⟨rfl,rfl⟩⟩
  ·cases hx
 ·exact hE.get hx
end Go.Lift
