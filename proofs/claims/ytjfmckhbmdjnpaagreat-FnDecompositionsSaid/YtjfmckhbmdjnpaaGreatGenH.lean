/-
 Contracts: orders drawn. No condition.
-/
import Derived.Test.YtjfmckhbmdjnpaaGreatGenG
import Derived.Test.YtjfmckhbmdjnpaaGreatLiftG
import Derived.Test.YtjfmckhbmdjnpaaGreatStp
import Derived.Test.YtjfmckhbmdjnpaaGreatPlO
set_option linter.unusedSimpArgs false
set_option linter.unusedVariables false
namespace Go.Proofs.YtjfmckhbmdjnpaaGreat
open Go.RowKit Go.Lift Plain
set_option maxRecDepth 100000
end Go.Proofs.YtjfmckhbmdjnpaaGreat
namespace Go.Lift
theorem FG:at_ [none,none]=at_ []:=by
 funext k
 rcases k with _ | _ | k<;>simp [at_]
theorem Does.noneS2 {P:Program} {f:FuncId} {args:List AV} {res:AV} (h:Does P f args [] res [none,none]):Does P f args [] res []:=by
 unfold Does at*
 rw[FG]at h
 exact h
end Go.Lift
namespace Go.Proofs.YtjfmckhbmdjnpaaGreat
open Go.RowKit Go.Lift Plain
set_option maxRecDepth 100000
theorem HS {N:Net} {g g':Bool} {c:List AV} (hc:cY c=some (tcs N.ts)):Wk 0 [ownN 0 N] [some ⟨3,g,c⟩,some ⟨1,g',iv N.os⟩] [netA N] [none,none]:=by
 have h3:=pS (ts:=N.ts)
 have h1:(dv N.os).take (N.os.length*1)=dv N.os:=zt (by rw[uU];omega)
 have hm:∀ f:AV→AV,(∀ x,f (.d x)=.d x)→mapL f (iv N.os)=iv N.os:=fun f hf=>by
  rw[dz]
  unfold iv
  rw[List.map_map]
  exact List.map_congr_left fun x _=>by simp [mapA,hf]
 refine Wk.trans (Wk.freeze 0 (R:=⟨3,g,c⟩) (ls:=tcs N.ts) (e':=[.agg [.d (.int N.k),.d (.int N.p),.d (.int N.n),.d (tens N.ts),.own 1 0 N.os.length]]) (σ':=[none,some ⟨1,g',iv N.os⟩]) (Nat.le_refl _) rfl hc ?_ ?_)
  (Wk.freeze 1 (R:=⟨1,g',iv N.os⟩) (ls:=dv N.os) (Nat.zero_le _) rfl cJ ?_ ?_)
 ·simp only[mapL,mapA,ownN,fzG,if_true,List.drop_zero,h3,tens,Nat.zero_add,Nat.reduceEqDiff,if_false,Nat.one_ne_zero]
 ·simp only[frz,List.set_cons_zero,List.map_cons,List.map_nil,Option.map_none,Option.map_some]
  rw[hm _ fun x=>rfl]
 ·simp only[mapL,mapA,netA,fzG,if_true,List.drop_zero,h1,ints,tens]
 ·simp only[frz,List.set_cons_succ,List.set_cons_zero,List.map_cons,List.map_nil,Option.map_none]
theorem Does.fzN {P:Program} {f:FuncId} {args:List AV} {N:Net} {g g':Bool} {c:List AV} (h:Does P f args [] (ownN 0 N) [some ⟨3,g,c⟩,some ⟨1,g',iv N.os⟩]) (hc:cY c=some (tcs N.ts):=by exact pI):Does P f args [] (netA N) []:=
 Does.noneS2 (Does.wk0 h (HS hc))
theorem MakeNetwork_d {b:List Int} (hb:CodeOk b) {m:Nat} (hm:m≤1000) {kk pp nn most:Int} (hr:ae ⟨kk,pp,nn⟩=true) (hmo:0≤most∧most≤11):
  ∃ N:Net,(Gen6 N∧(N.ts.length:Int)≤most∧N.rg=⟨kk,pp,nn⟩)∧Does Tryz.prog 6 [.d (bytes b),.d (.int m),bm kk pp nn,.d (.int most)] [] (netA N) []:=by
 obtain⟨i,h,hi,hd⟩:=ti hb hm
 have hwb:=ci hr
 obtain⟨wd,hw⟩:=Int.eq_ofNat_of_zero_le (a:=ah ⟨kk,pp,nn⟩) (by omega)
 obtain⟨g1,g2⟩:=Jg (b:=b) (c:=⟨i,h⟩) hr hw hmo
 have hx:=EC hb (c:=⟨i,h⟩) hi hr hw (by omega) hmo
 refine⟨_,⟨g1,g2,rfl⟩, ?_⟩
 generalize gNet b ⟨kk,pp,nn⟩ wd most ⟨i,h⟩=T at hx
 obtain⟨c2,N⟩:=T
 simp only at hx ⊢
 refine Does.fzN (g:=true) (g':=true) ?_
 unfold ownN at hx ⊢
 unfold curS curR curC at hx
 unfold curR curC at hd
 (refine spec_of (by kernel_rfl) Tryz.func6 pz (fnOk (nb rfl) ?_);unfold ir)
 (simp only[Nat.reduceSub,Zl,zn,Nat.reduceAdd,zF];try simp only[af]);(simp only[go_sem,seval,reduceCtorEq,List.replicate])
 (refine zD (hd) ?_)
 simp only[go_sem,seval,reduceCtorEq]
 (refine an [2] [] false (zd rfl) ?_ _ ?_ (hx) ?_ ?_;(focus (simp only[go_sem,seval,reduceCtorEq];done));(focus (simp only[go_sem,seval,reduceCtorEq];done));(focus (first | rfl | (simp only[go_sem,seval,reduceCtorEq];done))))
 simp(disch:=omega) only[go_sem,seval,reduceCtorEq]
 (refine zE ?_ ?_<;>try simp only[go_sem,seval,reduceCtorEq])
end Go.Proofs.YtjfmckhbmdjnpaaGreat
