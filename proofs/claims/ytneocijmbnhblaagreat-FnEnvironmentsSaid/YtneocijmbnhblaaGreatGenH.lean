/-
 Contracts: orders drawn. No condition.
-/
import Derived.Test.YtneocijmbnhblaaGreatGenG
import Derived.Test.YtneocijmbnhblaaGreatLiftG
import Derived.Test.YtneocijmbnhblaaGreatStp
import Derived.Test.YtneocijmbnhblaaGreatPlO
set_option linter.unusedSimpArgs false
set_option linter.unusedVariables false
namespace Go.Proofs.YtneocijmbnhblaaGreat
open Go.RowKit Go.Lift Plain
set_option maxRecDepth 100000
theorem gN (ts:List Ten):(bc ts).nums=List.range ts.length:=by
 unfold Osd.nums bc
 simp only[List.length_map]
 refine List.filter_eq_self.2 fun i hi=> ?_
 have:i<ts.length:=by simpa using hi
 simp [Osd.alive,this]
end Go.Proofs.YtneocijmbnhblaaGreat
namespace Go.Lift
theorem Br:at_ [none,none]=at_ []:=by
 funext k
 rcases k with _ | _ | k<;>simp [at_]
theorem Does.noneS2 {P:Program} {f:FuncId} {args:List AV} {res:AV} (h:Does P f args [] res [none,none]):Does P f args [] res []:=by
 unfold Does at*
 rw[Br]at h
 exact h
end Go.Lift
namespace Go.Proofs.YtneocijmbnhblaaGreat
open Go.RowKit Go.Lift Plain
set_option maxRecDepth 100000
theorem Dm {N:Net} {g g':Bool} {c:List AV} (hc:cL c=some (tcs N.ts)):Wk 0 [ownN 0 N] [some ⟨3,g,c⟩,some ⟨1,g',iv N.os⟩] [netA N] [none,none]:=by
 have h3:=lG (ts:=N.ts)
 have h1:(dv N.os).take (N.os.length*1)=dv N.os:=List.take_of_length_le (by rw[du];omega)
 have hm:∀ f:AV→AV,(∀ x,f (.d x)=.d x)→mapL f (iv N.os)=iv N.os:=fun f hf=>by
  rw[de]
  unfold iv
  rw[List.map_map]
  exact List.map_congr_left fun x _=>by simp [mapA,hf]
 refine Wk.trans (Wk.freeze 0 (R:=⟨3,g,c⟩) (ls:=tcs N.ts) (e':=[.agg [.d (.int N.k),.d (.int N.p),.d (.int N.n),.d (tens N.ts),.own 1 0 N.os.length]]) (σ':=[none,some ⟨1,g',iv N.os⟩]) (Nat.le_refl _) rfl hc ?_ ?_)
  (Wk.freeze 1 (R:=⟨1,g',iv N.os⟩) (ls:=dv N.os) (Nat.zero_le _) rfl bP ?_ ?_)
 ·simp only[mapL,mapA,ownN,fzG,if_true,List.drop_zero,h3,tens,Nat.zero_add,Nat.reduceEqDiff,if_false,Nat.one_ne_zero]
 ·simp only[frz,List.set_cons_zero,List.map_cons,List.map_nil,Option.map_none,Option.map_some]
  rw[hm _ fun x=>rfl]
 ·simp only[mapL,mapA,netA,fzG,if_true,List.drop_zero,h1,ints,tens]
 ·simp only[frz,List.set_cons_succ,List.set_cons_zero,List.map_cons,List.map_nil,Option.map_none]
theorem Does.fzN {P:Program} {f:FuncId} {args:List AV} {N:Net} {g g':Bool} {c:List AV} (h:Does P f args [] (ownN 0 N) [some ⟨3,g,c⟩,some ⟨1,g',iv N.os⟩]) (hc:cL c=some (tcs N.ts):=by exact jh):Does P f args [] (netA N) []:=
 Does.noneS2 (Does.wk0 h (Dm hc))
theorem BF {N:Net} {g g':Bool} {x:D} {c:List AV} (hc:cL c=some (tcs N.ts)):Wk 0 [.tup [ownN 0 N,.d x]] [some ⟨3,g,c⟩,some ⟨1,g',iv N.os⟩] [.tup [netA N,.d x]] [none,none]:=by
 have h3:=lG (ts:=N.ts)
 have h1:(dv N.os).take (N.os.length*1)=dv N.os:=List.take_of_length_le (by rw[du];omega)
 have hm:∀ f:AV→AV,(∀ x,f (.d x)=.d x)→mapL f (iv N.os)=iv N.os:=fun f hf=>by
  rw[de]
  unfold iv
  rw[List.map_map]
  exact List.map_congr_left fun x _=>by simp [mapA,hf]
 refine Wk.trans (Wk.freeze 0 (R:=⟨3,g,c⟩) (ls:=tcs N.ts) (e':=[.tup [.agg [.d (.int N.k),.d (.int N.p),.d (.int N.n),.d (tens N.ts),.own 1 0 N.os.length],.d x]]) (σ':=[none,some ⟨1,g',iv N.os⟩]) (Nat.le_refl _) rfl hc ?_ ?_)
  (Wk.freeze 1 (R:=⟨1,g',iv N.os⟩) (ls:=dv N.os) (Nat.zero_le _) rfl bP ?_ ?_)
 ·simp only[mapL,mapA,ownN,fzG,if_true,List.drop_zero,h3,tens,Nat.zero_add,Nat.reduceEqDiff,if_false,Nat.one_ne_zero]
 ·simp only[frz,List.set_cons_zero,List.map_cons,List.map_nil,Option.map_none,Option.map_some]
  rw[hm _ fun x=>rfl]
 ·simp only[mapL,mapA,netA,fzG,if_true,List.drop_zero,h1,ints,tens]
 ·simp only[frz,List.set_cons_succ,List.set_cons_zero,List.map_cons,List.map_nil,Option.map_none]
theorem Does.fzNB {P:Program} {f:FuncId} {args:List AV} {N:Net} {g g':Bool} {x:D} {c:List AV} (h:Does P f args [] (.tup [ownN 0 N,.d x]) [some ⟨3,g,c⟩,some ⟨1,g',iv N.os⟩]) (hc:cL c=some (tcs N.ts):=by exact jh):Does P f args [] (.tup [netA N,.d x]) []:=
 Does.noneS2 (Does.wk0 h (BF hc))
theorem Does.fzS {P:Program} {f:FuncId} {args:List AV} {g:Bool} {n:Nat} {F:List Int} (h:Does P f args [] (.own 0 0 n) [some ⟨2,g,iv F⟩]) (hl:F.length=n*2):Does P f args [] (.d (stp n F)) []:=Does.fz h bP (by rw[du,hl])
theorem MakeNetwork_d {b:List Int} (hb:CodeOk b) {m:Nat} (hm:m≤1000) {kk pp nn most:Int} (hr:aq ⟨kk,pp,nn⟩=true) (hmo:0≤most∧most≤11):
  ∃ N:Net,(Gen6 N∧(N.ts.length:Int)≤most∧N.rg=⟨kk,pp,nn⟩)∧Does Tryz.prog 6 [.d (bytes b),.d (.int m),bn kk pp nn,.d (.int most)] [] (netA N) []:=by
 obtain⟨i,h,hi,hd⟩:=pu hb hm
 have hwb:=cq hr
 obtain⟨wd,hw⟩:=Int.eq_ofNat_of_zero_le (a:=ar ⟨kk,pp,nn⟩) (by omega)
 obtain⟨g1,g2⟩:=Et (b:=b) (c:=⟨i,h⟩) hr hw hmo
 have hx:=As hb (c:=⟨i,h⟩) hi hr hw (by omega) hmo
 refine⟨_,⟨g1,g2,rfl⟩, ?_⟩
 generalize gNet b ⟨kk,pp,nn⟩ wd most ⟨i,h⟩=T at hx
 obtain⟨c2,N⟩:=T
 simp only at hx ⊢
 refine Does.fzN (g:=true) (g':=true) ?_
 unfold ownN at hx ⊢
 unfold curS curR curC at hx
 unfold curR curC at hd
 (refine spec_of (by kernel_rfl) Tryz.func6 lf (fnOk (nb rfl) ?_);unfold C_spec_MakeNetwork)
 (simp only[Nat.reduceSub,List.length_cons,List.length_nil,Nat.reduceAdd,am,al,aj,ai,ah,af,ae,ac];try simp only[au]);(simp only[go_sem,seval,reduceCtorEq,List.replicate])
 (refine aC (hd) ?_ ?_ ?_;(focus (simp only[go_sem,seval,reduceCtorEq];done));(first | rfl | (focus (simp only[go_sem];done))))
 simp only[go_sem,seval,reduceCtorEq]
 (refine aB [2] [] false (of_decide_eq_true rfl) ?_ _ ?_ (hx) ?_ ?_;(focus (simp only[go_sem,seval,reduceCtorEq];done));(focus (simp only[go_sem,seval,reduceCtorEq];done));(focus (first | rfl | (simp only[go_sem,seval,reduceCtorEq];done))))
 simp(disch:=omega) only[go_sem,seval,reduceCtorEq]
 (refine FnEnd.mk (nb rfl) rfl (of_decide_eq_true rfl) ?_ ?_<;>try simp only[go_sem,seval,reduceCtorEq])
end Go.Proofs.YtneocijmbnhblaaGreat
