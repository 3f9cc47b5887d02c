/-
 LIFT, part 6: the operations that write to nothing that is there do what the small language says. No condition.
-/
import Derived.Test.YtobhmajhachnaaaGreatDoorLiftA
import Derived.Laws.Cells
namespace Go.Lift
open Go.RowKit
def Exec(P:Program)(Q:Value→World→Prop):Result Next→Prop
 | .ok (.value v) w=>Q v w
 | .ok .skip w=>Q undef w
 | .ok (.enter f args) w=>Calls P f args w fun e w'=>∃v,e=.returned v∧Q v w'
 |_=>False
theorem Exec.upon{P:Program}{Q:Value→World→Prop}{r:Result Next}{o:Oper}{a:Act}{next:Act→World→Prop}{Q':Exit→Act→World→Prop}
  (h:Exec P Q r) (hn:∀v w,Q v w→next (a.put o.dst v) w):o.upon P a next Q' r:=by
 cases r with
 |ok x w=>
  cases x with
  |value v=>exact hn _ _ h
  |skip=>exact hn _ _ h
  |enter f args=>
   refine Calls.mono h fun e w' hq=> ?_
   obtain⟨v,rfl,hq⟩:=hq;exact hn _ _ hq
  |_=>exact h.elim
 |halt x w=>exact h.elim
def GPost(γ:Labels)(φ:Nat→Nat)(τ:St)(w:World)(k0:Nat)(r:AV)(news:Sto)(v:Value)(w':World):Prop:=
 ∃γ' φ',Kst γ w γ' w'∧Live w γ φ τ w' γ' φ' (over τ k0 news)∧Sim γ' φ' (over τ k0 news) w'∧Rel w' γ' φ' (over τ k0 news) r v
theorem fo(τ:St)(k0:Nat):over τ k0 []=τ:=by
 funext k
 simp [over];omega
theorem oy(τ:St)(k0:Nat)(R:Option Root):over τ k0 [R]=upd τ k0 R:=by
 funext k
 simp only[over,upd,List.length_singleton];by_cases h:k=k0
 ·subst h;simp
 ·rw[if_neg (by omega),if_neg h]
section
variable {γ : Labels} {φ : Nat → Nat} {τ : St} {w : World} {k0 : Nat} {r : AV} {v : Value}
theorem GPost.pure(hS:Sim γ φ τ w)(h:Rel w γ φ τ r v):GPost γ φ τ w k0 r [] v w:=by
 refine⟨γ,φ,Kst.refl _ _, ?_⟩;rw[fo];exact⟨Live.refl _ _ _ _,hS,h⟩
theorem GPost.alloc(hS:Sim γ φ τ w)(hk:τ k0=none)(cur:Array Value)(T:TypeId)(R:Root)(hlen:R.cells.length≤cur.size)
  (hc:∀(j:Nat) (av:AV),R.cells[j]? =some av→∃v,cur[j]? =some v∧Rel w γ φ τ av v)
  (hr:Rel (w.alloc (.cells cur T)) (upd γ w.heap.size (.r k0 [])) (upd φ k0 w.heap.size) (upd τ k0 (some R)) r v):
  GPost γ φ τ w k0 r [some R] v (w.alloc (.cells cur T)):=by
 obtain⟨hL,hS'⟩:=hS.alloc hk cur T R hlen hc;refine⟨upd γ w.heap.size (.r k0 []),upd φ k0 w.heap.size,Kst.alloc _ _ _ _, ?_⟩;rw[oy];exact⟨hL,hS',hr⟩
theorem ou(cur:Array Value)(T:TypeId)(R:Root):Rel (w.alloc (.cells cur T)) (upd γ w.heap.size (.r k0 [])) (upd φ k0 w.heap.size) (upd τ k0 (some R)) (.ptr k0 0) (.pointer (some ⟨w.heap.size,0,none⟩)):=by
 simp only[Rel];exact⟨R,aC _ _ _,by rw[aC]⟩
theorem ow(cur:Array Value)(T:TypeId)(R:Root)(n c:Nat)(hn:n≤c)(hc:R.g=true→c*R.e≤cur.size):
  Rel (w.alloc (.cells cur T)) (upd γ w.heap.size (.r k0 [])) (upd φ k0 w.heap.size) (upd τ k0 (some R)) (.own k0 0 n) (.slice (some ⟨w.heap.size,0,none⟩) n c):=by
 simp only[Rel];exact⟨R,aC _ _ _,.inr ⟨c,cur,T,by rw[aC],hn,by rw[aC,aC],by rw[aC];exact heap_alloc_new w _,fun h=>by simpa using hc h⟩⟩
end
theorem EL{w:World}{γ:Labels}{φ:Nat→Nat}{s:St}:∀{v:Value} {x:AV},cV1 v=some x→Rel w γ φ s x v∧v.cells= #[v]∧nj x=some [x]∧v.oneCell'=true:=by
 intro v x h;unfold cV1 at h;split at h<;>first|cases h;done|skip
 all_goals
  simp only[zj]at h;subst h;refine⟨by simp [Rel,Rd],rfl,rfl,rfl⟩
theorem nk{w:World}{γ:Labels}{φ:Nat→Nat}{s:St}:∀{vs:List Value} {l:List AV},cVs vs=some l→RelL w γ φ s l vs
 | [],l,h=>by
  simp only[cVs,zj]at h;subst h;simp [RelL]
 |v :: vs,l,h=>by
  simp only[cVs]at h;split at h
  ·rename_i x m hx hm
   simp only[zj]at h;subst h;simp only[RelL];exact⟨v,vs,rfl,(EL hx).1,nk hm⟩
  ·cases h
theorem MQ{w:World}{γ:Labels}{φ:Nat→Nat}{s:St}{v:Value}{x:AV}(h:cV v=some x):Rel w γ φ s x v:=by
 unfold cV at h;split at h
 ·rename_i cs
  simp only[zm]at h;obtain⟨l,hl,rfl⟩:=h;simp only[Rel];exact⟨cs,rfl,nk hl⟩
 ·exact(EL h).1
theorem rJ{w:World}{γ:Labels}{φ:Nat→Nat}{s:St}{x:AV}{v:Value}{l:List AV}(h:nj x=some l)(hr:Rel w γ φ s x v):RelL w γ φ s l v.cells.toList:=by
 unfold nj at h;split at h<;>first|cases h;done|skip
 ·simp only[zj]at h
  subst h;simp only[Rel]at hr;obtain⟨vs,rfl,hl⟩:=hr;exact hl
 ·simp only[zj]at h
  subst h;simp only[Rel]at hr;subst hr;simp [RelL,Rel,Value.cells]
 ·rename_i x
  simp only[zj]at h;subst h;have:v.cells= #[v]:=by
   simp only[Rel]at hr;cases x<;>simp only[Rd]at hr
   ·subst hr;rfl
   ·subst hr;rfl
   ·subst hr;rfl
   ·subst hr;rfl
   ·obtain⟨A,c,rfl,_⟩:=hr;rfl
  simp [RelL,this,hr]
 ·simp only[zj]at h
  subst h;have:v.cells= #[v]:=by
   simp only[Rel]at hr;obtain⟨R,_,⟨rfl,_⟩|⟨c,cur,T,rfl,_⟩⟩:=hr<;>rfl
  simp [RelL,this,hr]
 ·simp only[zj]at h
  subst h;have:v.cells= #[v]:=by
   simp only[Rel]at hr;obtain⟨R,_,rfl⟩:=hr
   rfl
  simp [RelL,this,hr]
 ·simp only[zj]at h
  subst h;have:v.cells= #[v]:=by
   simp only[Rel]at hr;obtain⟨vs,rfl,_⟩:=hr
   rfl
  simp [RelL,this,hr]
end Go.Lift
namespace Go.Lift
open Go.RowKit
def Fix(ρ:Operand→Value):Prop:=(∀f,ρ (.func f)=.func (.func f) #[] #[])∧∀v,ρ (.const v)=v
def Sound(P:Program)(s:St)(ev:O→AV)(k0:Nat)(o:Oper)(K:AV→Sto→Prop):Prop:=
 ∃r news,K r news∧∀γ φ τ w (ρ:Operand→Value),Sim γ φ τ w→(∀k R,τ k=some R→s k=some R)→(∀j,j<news.length→τ (k0+j)=none)→
  (∀X Y,cO X=some Y→X∈o.op.operands.toList→Rel w γ φ τ (ev Y) (ρ X))→Fix ρ→Exec P (GPost γ φ τ w k0 r news) ((execOp ρ o).run P w)
section
variable {P : Program} {s : St} {ev : O → AV} {k0 : Nat} {K : AV → Sto → Prop} {o : Oper}
theorem dI{w:World}{γ:Labels}{φ:Nat→Nat}{τ:St}{b:Bool}{v:Value}(h:Rel w γ φ τ (.d (.bool b)) v):v=.bool b:=by simpa [Rel,Rd]using h
theorem bX{w:World}{γ:Labels}{φ:Nat→Nat}{τ:St}{b:Int}{v:Value}(h:Rel w γ φ τ (.d (.int b)) v):v=.int .i64 b:=by simpa [Rel,Rd]using h
theorem dX{w:World}{γ:Labels}{φ:Nat→Nat}{τ:St}{v:Value}(h:Rel w γ φ τ .nil v):v=.slice none 0 0:=by simpa [Rel]using h
theorem bp{w:World}{γ:Labels}{φ:Nat→Nat}{τ:St}{b:Int}:Rel w γ φ τ (.d (.int b)) (.int .i64 b):=by simp [Rel,Rd]
theorem fP{w:World}{γ:Labels}{φ:Nat→Nat}{τ:St}{b:Bool}:Rel w γ φ τ (.d (.bool b)) (.bool b):=by simp [Rel,Rd]
theorem GZ(x:Operand)(ho:o.op=.move x∨o.op=.assign x){y:O}(hy:cO x=some y)(h:K (ev y) []):Sound P s ev k0 o K:=by
 refine⟨_,_,h,fun γ φ τ w ρ hS hsub hd hr _=> ?_⟩;have hx:=hr x y hy (by rcases ho with ho|ho<;>simp [ho,Op.operands]);rcases ho with ho|ho<;>simp only[execOp,ho,Sem.run_pure,Exec]<;>exact GPost.pure hS hx
theorem LX(c a b:Operand)(ho:o.op=.pick c a b){c' a' b':O}(hc:cO c=some c')(ha:cO a=some a')(hb:cO b=some b')(h:gI P s ev k0 (.pick c' a' b') K):Sound P s ev k0 o K:=by
 simp only[gI]at h;split at h
 ·rename_i t ht
  by_cases htt:t=true
  ·subst htt
   simp only[if_true]at h;refine⟨_,_,h,fun γ φ τ w ρ hS hsub hd hr _=> ?_⟩;have hx:=hr c c' hc (by simp [ho,Op.operands]);have hy:=hr a a' ha (by simp [ho,Op.operands]);rw[ht]at hx;have hx:=dI hx;simp only[execOp,ho,hx,asBool,Sem.run_bind,Sem.run_pure,Result.andThen_ok,if_true,Exec];exact GPost.pure hS hy
  ·obtain rfl:t=false:=by simpa using htt
   simp only[Bool.false_eq_true,if_false]at h;refine⟨_,_,h,fun γ φ τ w ρ hS hsub hd hr _=> ?_⟩;have hx:=hr c c' hc (by simp [ho,Op.operands]);have hy:=hr b b' hb (by simp [ho,Op.operands]);rw[ht]at hx;have hx:=dI hx;simp only[execOp,ho,hx,asBool,Sem.run_bind,Sem.run_pure,Result.andThen_ok,Bool.false_eq_true,if_false,Exec];exact GPost.pure hS hy
 ·exact h.elim
theorem Nl(t:TypeId)(x:Operand)(ho:o.op=.box t x){y:O}(hy:cO x=some y)(h:gI P s ev k0 (.box y) K):Sound P s ev k0 o K:=by
 simp only[gI]at h;split at h
 ·rename_i l hl
  refine⟨_,_,h,fun γ φ τ w ρ hS hsub hd hr _=> ?_⟩;have hx:=hr x y hy (by simp [ho,Op.operands]);have hcl:=rJ hl hx;have hrun:(execOp ρ o).run P w=.ok (.value (.pointer (some ⟨w.heap.size,0,none⟩))) (w.alloc (.cells (ρ x).cells t)):=by
   simp [execOp,ho,Instr.box,newVar,newRow]
  rw[hrun];simp only[Exec];refine GPost.alloc hS (by simpa using hd 0 (by simp)) _ t _ (by simp [← RelL.len hcl]) (fun j av hav=> ?_) (ou _ _ _);obtain⟨v,hv,hrel⟩:=RelL.get hcl hav;exact⟨v,by simpa using hv,hrel⟩
 ·exact h.elim
theorem j9{t:TypeId}{z:List AV}(h:zOf P t=some z):∃i v,P.info? t=some i∧i.zero=some v∧cVs v.cells.toList=some z∧z.length=i.size∧v.cells.size=i.size:=by
 unfold zOf at h;split at h
 ·rename_i i hi
  split at h
  ·rename_i v hv
   split at h
   ·rename_i l hl
    split at h
    ·rename_i hlen
     simp only[zj]at h;subst h;have:=RelL.len (nk (w:=default) (γ:=fun _=>.im) (φ:=id) (s:=fun _=>none) hl);exact⟨i,v,hi,hv,hl,hlen,by simp at this;omega⟩
    ·cases h
   ·cases h
  ·cases h
 ·cases h
theorem H3(t:TypeId)(ho:o.op=.alloc t)(hz:oneZ P t=true)(h:gI P s ev k0 (.zer [.any]) K):Sound P s ev k0 o K:=by
 simp only[gI]at h;refine⟨_,_,h,fun γ φ τ w ρ hS hsub hd hr _=> ?_⟩;obtain⟨i,v,hi,hv,hsz⟩:∃i v,P.info? t=some i∧i.zero=some v∧1≤v.cells.size:=by
  unfold oneZ at hz;split at hz
  ·rename_i i hi
   split at hz
   ·rename_i v hv
    exact⟨i,v,hi,hv,zd hz⟩
   ·cases hz
  ·cases hz
 have hrun:(execOp ρ o).run P w=.ok (.value (.pointer (some ⟨w.heap.size,0,none⟩))) (w.alloc (.cells v.cells t)):=by
  simp [execOp,ho,Instr.alloc,newVar,newRow,zeroValue,typeInfo,hi,hv]
 rw[hrun];simp only[Exec];refine GPost.alloc hS (by simpa using hd 0 (by simp)) _ t _ (by simpa using hsz) (fun j av hav=> ?_) (ou _ _ _);have hj:j=0:=by
  rcases j with _|j
  ·rfl
  ·simp at hav
 subst hj;have:av=.any:=by simpa using hav.symm
 subst this;exact⟨v.cells[0],by simp [Array.getElem?_eq_getElem (show 0<v.cells.size by omega)],trivial⟩
theorem JS(t:TypeId)(ho:o.op=.alloc t){z:List AV}(hz:zOf P t=some z)(h:gI P s ev k0 (.zer z) K):Sound P s ev k0 o K:=by
 simp only[gI]at h;refine⟨_,_,h,fun γ φ τ w ρ hS hsub hd hr _=> ?_⟩;obtain⟨i,v,hi,hv,hcs,hlen,hsz⟩:=j9 hz;have hrun:(execOp ρ o).run P w=.ok (.value (.pointer (some ⟨w.heap.size,0,none⟩))) (w.alloc (.cells v.cells t)):=by
  simp [execOp,ho,Instr.alloc,newVar,newRow,zeroValue,typeInfo,hi,hv]
 rw[hrun];simp only[Exec];refine GPost.alloc hS (by simpa using hd 0 (by simp)) _ t _ (by show z.length≤_;omega) (fun j av hav=> ?_) (ou _ _ _);obtain⟨u,hu,hrel⟩:=RelL.get (nk (w:=w) (γ:=γ) (φ:=φ) (s:=τ) hcs) hav;exact⟨u,by simpa using hu,hrel⟩
end
end Go.Lift
namespace Go.Lift
open Go.RowKit
theorem CH(off:Nat):∀(vs:List Value) (i:Nat) (cells:Array Value),off+i+vs.length≤cells.size→
  ((vs.zipIdx i).foldl (fun cs (x:Value × Nat)=>cs.setIfInBounds (off+x.2) x.1) cells).toList=cells.toList.take (off+i)++vs++cells.toList.drop (off+i+vs.length)
 | [],i,cells,_=>by simp
 |v :: vs,i,cells,h=>by
  have ih:=CH off vs (i+1) (cells.setIfInBounds (off+i) v) (by simp at h ⊢;omega);simp only[List.zipIdx_cons,List.foldl_cons];rw[ih];have e:=list_seg_step cells.toList (off+i) v vs (by simp at h ⊢;omega);simpa [Array.toList_setIfInBounds,Nat.add_assoc]using e
theorem IE(off:Nat)(v:Value)(cells:Array Value)(h:off+v.cells.size≤cells.size):
  (v.cells.zipIdx.foldl (fun cs (x:Value × Nat)=>cs.setIfInBounds (off+x.2) x.1) cells).toList=cells.toList.take off++v.cells.toList++cells.toList.drop (off+v.cells.size):=by
 have:=CH off v.cells.toList 0 cells (by simpa using h);simp only[Nat.add_zero,Array.length_toList]at this;rw[← this, ← Array.foldl_toList]
 simp
section
variable {w : World} {γ : Labels} {φ : Nat → Nat} {τ : St}
theorem RelL.take{l:List AV}{vs:List Value}(h:RelL w γ φ τ l vs)(n:Nat):RelL w γ φ τ (l.take n) (vs.take n):=by
 refine RelL.of_get (by have:=h.len;simp [this]) fun i x hx=> ?_
 rw[List.getElem?_take]at hx ⊢;split at hx
 ·obtain⟨v,hv,hr⟩:=h.get hx
  exact⟨v,by rw[if_pos (by assumption)];exact hv,hr⟩
 ·cases hx
theorem RelL.drop{l:List AV}{vs:List Value}(h:RelL w γ φ τ l vs)(n:Nat):RelL w γ φ τ (l.drop n) (vs.drop n):=by
 refine RelL.of_get (by have:=h.len;simp [this]) fun i x hx=> ?_
 rw[List.getElem?_drop]at hx ⊢;exact h.get hx
theorem xI(P:Program){ev:O→AV}{ρ:Operand→Value}(place:Nat→Option (Nat × Nat)):∀(qs:List (Nat × Operand)) (ps:List (Nat × Nat × O)) (cells:Array Value) (z l:List AV),
  qs.length=ps.length→(∀(i:Nat) (q:Nat × Operand) (p:Nat × Nat × O),qs[i]? =some q→ps[i]? =some p→place q.1=some (p.1,p.2.1)∧Rel w γ φ τ (ev p.2.2) (ρ q.2))→
  RelL w γ φ τ z cells.toList→nB ev z ps=some l→∃r,Instr.fill place cells (qs.map fun x=>(x.1,ρ x.2))=some r∧RelL w γ φ τ l r.toList
 | [],[],cells,z,l,_,_,hz,h=>by
  simp only[nB,zj]at h;subst h;exact⟨cells,by simp [Instr.fill],hz⟩
 | [],_ :: _,_,_,_,hl,_,_,_=>by simp at hl
 |_ :: _,[],_,_,_,hl,_,_,_=>by simp at hl
 |q :: qs,(off,n,x) :: ps,cells,z,l,hl,hq,hz,h=>by
  obtain⟨hp,hx⟩:=hq 0 q (off,n,x) (by simp) (by simp);simp only[nB]at h;split at h
  ·rename_i lx hlx
   split at h
   ·rename_i hcond
    have hcx:=rJ hlx hx;have hzl:=hz.len;have hsz:(ρ q.2).cells.size=n:=by have:=hcx.len;simp at this;omega
    have hfit:off+(ρ q.2).cells.size≤cells.size:=by simp at hzl;omega
    have hone:=IE off (ρ q.2) cells hfit;obtain⟨r,hr,hrel⟩:=xI P place qs ps ((ρ q.2).cells.zipIdx.foldl (fun cs (x:Value × Nat)=>cs.setIfInBounds (off+x.2) x.1) cells) _ l (by simpa using hl)
     (fun i q' p' h1 h2=>hq (i+1) q' p' (by simpa using h1) (by simpa using h2))
     (by rw[hone,hsz];exact((hz.take off).append hcx).append (hz.drop (off+n))) h
    refine⟨r, ?_,hrel⟩;simp only[List.map_cons,Instr.fill];rw[hp];simp only[];rw[if_neg (by simp [hsz];omega)];exact hr
   ·cases h
  ·cases h
end
section
variable {P : Program} {s : St} {ev : O → AV} {k0 : Nat} {K : AV → Sto → Prop} {o : Oper}
theorem vv{fs:Array Field}:∀{qs:List (Nat × Operand)} {ps:List (Nat × Nat × O)},qn P fs qs=some ps→qs.length=ps.length∧
  ∀(i:Nat) (q:Nat × Operand) (p:Nat × Nat × O),qs[i]? =some q→ps[i]? =some p→(∃f,fs[q.1]? =some f∧p.1=f.offset∧szOf P f.type=some p.2.1)∧cO q.2=some p.2.2
 | [],ps,h=>by
  simp only[qn,zj]at h;subst h
  simp
 |(j,x) :: qs,ps,h=>by
  simp only[qn]at h;split at h
  ·rename_i f y m hf hy hm
   split at h
   ·rename_i n hn
    simp only[zj]at h;subst h;obtain⟨hlen,hg⟩:=vv hm;refine⟨by simp [hlen],fun i q p h1 h2=> ?_⟩;cases i with
    |zero=>simp at h1 h2;subst h1;subst h2;exact⟨⟨f,hf,rfl,hn⟩,hy⟩
    |succ i=>exact hg i q p (by simpa using h1) (by simpa using h2)
   ·cases h
  ·cases h
theorem y4{size:Nat}:∀{qs:List (Nat × Operand)} {ps:List (Nat × Nat × O)},uU size qs=some ps→qs.length=ps.length∧
  ∀(i:Nat) (q:Nat × Operand) (p:Nat × Nat × O),qs[i]? =some q→ps[i]? =some p→(p.1=q.1*size∧p.2.1=size)∧cO q.2=some p.2.2
 | [],ps,h=>by
  simp only[uU,zj]at h;subst h
  simp
 |(j,x) :: qs,ps,h=>by
  simp only[uU]at h;split at h
  ·rename_i y m hy hm
   simp only[zj]at h;subst h;obtain⟨hlen,hg⟩:=y4 hm;refine⟨by simp [hlen],fun i q p h1 h2=> ?_⟩;cases i with
   |zero=>simp at h1 h2;subst h1;subst h2;exact⟨⟨rfl,rfl⟩,hy⟩
   |succ i=>exact hg i q p (by simpa using h1) (by simpa using h2)
  ·cases h
theorem Ev{α β:Type}{P:Program}{w:World}{f:α→Sem β}{g:α→Option β}(h:∀a b,g a=some b→(f a).run P w=.ok b w):∀(l:List α) (m:List β),l.mapM g=some m→(l.mapM f).run P w=.ok m w
 | [],m,hm=>by simp at hm;subst hm;simp
 |a :: l,m,hm=>by
  simp only[List.mapM_cons,Option.bind_eq_bind,Option.bind_eq_some_iff,Option.pure_def,zj]at hm;obtain⟨b,hb,m',hm',rfl⟩:=hm;simp [List.mapM_cons,h a b hb,Ev h l m' hm']
theorem JR(t:TypeId)(ps:Array (Nat × Operand))(ho:o.op=.build t ps){fs:Array Field}{z:List AV}{qs:List (Nat × Nat × O)}(hu:P.underlying t=some (.struct fs))(hz:zOf P t=some z)
  (hsz:fs.toList.all (fun f=>(P.info? f.type).isSome)=true)
  (hq:qn P fs ps.toList=some qs) (h:gI P s ev k0 (.agg z qs) K):Sound P s ev k0 o K:=by
 simp only[gI]at h;split at h
 ·rename_i l hl
  refine⟨_,_,h,fun γ φ τ w ρ hS hsub hd hr _=> ?_⟩;obtain⟨i,v,hi,hv,hcs,hlen,hsize⟩:=j9 hz;obtain⟨hpl,hpg⟩:=vv hq;have hplaces:∃places:List (Nat × Nat),fs.toList.mapM (fun f=>(P.info? f.type).map fun i=>(f.offset,i.size))=some places:=by
   generalize fs.toList=fl at hsz
   induction fl with
   |nil=>exact⟨[],rfl⟩
   |cons f fl ih=>
    simp only[List.all_cons,Bool.and_eq_true]at hsz;obtain⟨m,hm⟩:=ih hsz.2;obtain⟨j,hj⟩:=Option.isSome_iff_exists.1 hsz.1;exact⟨(f.offset,j.size) :: m,by simp [List.mapM_cons,hj,hm]⟩
  obtain⟨places,hplaces⟩:=hplaces;have hrun:(fs.mapM fun f=>(do pure (f.offset, ← sizeOf f.type):Sem (Nat × Nat))).run P w=.ok places.toArray w:=by
   have:=Ev (P:=P) (w:=w) (f:=fun f:Field=>(do pure (f.offset, ← sizeOf f.type):Sem (Nat × Nat))) (g:=fun f=>(P.info? f.type).map fun i=>(f.offset,i.size))
    (fun f b hb=>by
     simp only[zm]at hb;obtain⟨j,hj,rfl⟩:=hb;simp [sizeOf,typeInfo,hj]) _ _ hplaces
   rw[Array.mapM_eq_mapM_toList,Sem.run_map,this]
   rfl
  have hget:∀(j:Nat) (f:Field) (n:Nat),fs[j]? =some f→szOf P f.type=some n→places[j]? =some (f.offset,n):=by
   have hm:∀(fl:List Field) (m:List (Nat × Nat)),fl.mapM (fun f=>(P.info? f.type).map fun i=>(f.offset,i.size))=some m→∀(j:Nat) (f:Field) (n:Nat),fl[j]? =some f→szOf P f.type=some n→m[j]? =some (f.offset,n):=by
    intro fl
    induction fl with
    |nil=>intro m hm j f n hf;simp at hf
    |cons f0 fl ih=>
     intro m hm j f n hf hn;simp only[List.mapM_cons,Option.bind_eq_bind,Option.bind_eq_some_iff,Option.pure_def,zj]at hm;obtain⟨b,hb,m',hm',rfl⟩:=hm;cases j with
     |zero=>
      simp at hf;subst hf;simp only[szOf]at hn;simp only[zm]at hb hn;obtain⟨j1,hj1,rfl⟩:=hb;obtain⟨j2,hj2,rfl⟩:=hn;rw[hj1]at hj2
      injection hj2 with e
      subst e
      simp
     |succ j=>simpa using ih m' hm' j f n (by simpa using hf) hn
   intro j f n hf hn;exact hm _ _ hplaces j f n (by simpa using hf) hn
  obtain⟨r,hfill,hrel⟩:=xI P (ρ:=ρ) (fun x=>places.toArray[x]?) ps.toList qs v.cells z l hpl (fun i q p h1 h2=>by
   obtain⟨⟨f,hf,e1,e2⟩,hc⟩:=hpg i q p h1 h2;refine⟨?_,hr q.2 p.2.2 hc ?_⟩
   ·simpa [e1]using hget q.1 f p.2.1 hf e2
   ·simp only[ho,Op.operands]
    exact List.mem_map.2 ⟨q,List.mem_of_getElem? h1,rfl⟩) (nk (w:=w) (γ:=γ) (φ:=φ) (s:=τ) hcs) hl
  have hrun2:(execOp ρ o).run P w=.ok (.value (.agg r)) w:=by
   simp only[execOp,ho,Instr.build,zeroValue,typeInfo,Sem.run_bind,program,Sem.run,hi,hv,Sem.run_pure,Result.andThen_ok,run_underlying hu,hrun];simp only[List.getElem?_toArray]at hfill;simp [hfill]
  rw[hrun2];simp only[Exec];exact GPost.pure hS (by simp only[Rel];exact⟨r,rfl,hrel⟩)
 ·exact h.elim
theorem lL(n:Nat)(z:List AV):(cl n z).length=n*z.length:=by simp [cl]
theorem yA(z:List AV):∀(n j:Nat) (av:AV),(cl n z)[j]? =some av→j<n*z.length∧z[j % z.length]? =some av
 |0,j,av,h=>by simp [cl]at h
 |n+1,j,av,h=>by
  have e:cl (n+1) z=z++cl n z:=by simp [cl,List.replicate_succ]
  rw[e,List.getElem?_append]at h;by_cases hj:j<z.length
  ·rw[if_pos hj]at h
   rw[Nat.mod_eq_of_lt hj,Nat.add_mul];exact⟨by omega,h⟩
  ·rw[if_neg hj]at h
   obtain⟨h1,h2⟩:=yA z n _ av h;rw[Nat.add_mul];refine⟨by omega, ?_⟩;rw[← Nat.mod_eq_sub_mod (by omega)]at h2;exact h2
theorem tU{w:World}{γ:Labels}{φ:Nat→Nat}{τ:St}{v:Value}{z:List AV}{size:Nat}(hcs:cVs v.cells.toList=some z)(hlen:z.length=size)(n m:Nat)(hnm:n*size≤m):
  ∀(j:Nat) (av:AV),(cl n z)[j]? =some av→∃u,((Array.range m).map (v.cells[· % v.cells.size]!))[j]? =some u∧Rel w γ φ τ av u:=by
 intro j av h;obtain⟨h1,h2⟩:=yA z n j av h;obtain⟨u,hu,hrel⟩:=RelL.get (nk (w:=w) (γ:=γ) (φ:=φ) (s:=τ) hcs) h2;have hl:=RelL.len (nk (w:=w) (γ:=γ) (φ:=φ) (s:=τ) hcs);simp at hl;rw[hlen]at h1;have hjm:j<m:=by omega
 refine⟨u, ?_,hrel⟩;rw[hl];simp only[Array.getElem?_toList]at hu;rw[Array.getElem?_map,Array.getElem?_range,if_pos hjm];simp only[Option.map_some,getElem!_def,hu]
theorem LY(t:TypeId)(n:Nat)(ps:Array (Nat × Operand))(ho:o.op=.buildSlice t n ps){e:TypeId}{size:Nat}{z:List AV}{qs:List (Nat × Nat × O)}(hu:P.underlying t=some (.slice e))(hsz:szOf P e=some size)(hz:zOf P e=some z)
  (h1:1≤size) (h24:n*size≤2 ^ 24) (hq:uU size ps.toList=some qs) (h:gI P s ev k0 (.mksl size n z qs) K):Sound P s ev k0 o K:=by
 simp only[gI]at h;split at h
 ·rename_i l hl
  refine⟨_,_,h,fun γ φ τ w ρ hS hsub hd hr _=> ?_⟩;obtain⟨i,v,hi,hv,hcs,hlen,hsize⟩:=j9 hz;obtain rfl:i.size=size:=by simpa [szOf,hi]using hsz
  obtain⟨hpl,hpg⟩:=y4 hq;have hz0:RelL w γ φ τ (cl n z) ((Array.range (n*i.size)).map (v.cells[· % v.cells.size]!)).toList:=by
   refine RelL.of_get (by simp [lL,hlen]) fun j av hav=> ?_
   obtain⟨u,hu',hrel⟩:=tU (w:=w) (γ:=γ) (φ:=φ) (τ:=τ) hcs hlen n (n*i.size) (Nat.le_refl _) j av hav;exact⟨u,by rw[Array.getElem?_toList];exact hu',hrel⟩
  obtain⟨r,hfill,hrel⟩:=xI P (ρ:=ρ) (fun x=>some (x*i.size,i.size)) ps.toList qs _ (cl n z) l hpl (fun j q p h1 h2=>by
   obtain⟨⟨e1,e2⟩,hc⟩:=hpg j q p h1 h2;refine⟨by rw[e1,e2],hr q.2 p.2.2 hc ?_⟩;simp only[ho,Op.operands];exact List.mem_map.2 ⟨q,List.mem_of_getElem? h1,rfl⟩) hz0 hl
  have hrl:=hrel.len;have hzero:n*i.size=0→(Array.range (n*i.size)).map ((#[]:Array Value)[· % (#[]:Array Value).size]!)=(Array.range (n*i.size)).map (v.cells[· % v.cells.size]!):=by
   intro h0;rw[h0]
   simp
  have hrun:(execOp ρ o).run P w=.ok (.value (.slice (some ⟨w.heap.size,0,none⟩) n n)) (w.alloc (.cells r e)):=by
   have h24':¬(n*i.size>2 ^ 24):=by omega
   by_cases h0:n*i.size=0
   ·simp only[execOp,ho,Instr.buildSlice,Sem.run_bind,run_underlying hu,sizeOf,typeInfo,program,Sem.run,hi,Sem.run_pure,Result.andThen_ok,if_neg h24',if_pos h0,hzero h0]
    simp [hfill,newRow]
   ·simp only[execOp,ho,Instr.buildSlice,Sem.run_bind,run_underlying hu,sizeOf,typeInfo,program,Sem.run,hi,Sem.run_pure,Result.andThen_ok,if_neg h24',if_neg h0,zeroValue,hv]
    simp [hfill,newRow]
  rw[hrun];simp only[Exec];have hll:l.length=n*i.size:=by
   have e:=fillA_len hl;rw[e,lL,hlen]
  refine GPost.alloc hS (by simpa using hd 0 (by simp)) _ e _ (by simp at hrl;show l.length≤_;omega) (fun j av hav=> ?_) (ow _ _ _ _ _ (Nat.le_refl _) (fun _=>by simp at hrl;show n*i.size≤_;omega));obtain⟨u,hu,hru⟩:=RelL.get hrel hav;exact⟨u,by simpa using hu,hru⟩
 ·exact h.elim
where
 fillA_len {ev:O→AV}:∀{ps:List (Nat × Nat × O)} {z l:List AV},nB ev z ps=some l→l.length=z.length:=by
  intro ps
  induction ps with
  |nil=>intro z l h;simp only[nB,zj]at h;rw[h]
  |cons p ps ih=>
   obtain⟨off,n,x⟩:=p;intro z l h;simp only[nB]at h;split at h
   ·split at h
    ·rename_i hc
     have:=ih h;rw[this]
     simp
     omega
    ·cases h
   ·cases h
end
end Go.Lift
namespace Go.Lift
open Go.RowKit
theorem db(b o j:Nat):(⟨b,o,none⟩:Addr).add j=⟨b,o+j,none⟩:=by unfold Addr.add;split<;>simp_all
theorem eZ{w:World}{b o:Nat}{cur:Array Value}{T:TypeId}{f:Nat × Nat}{v:Value}(h:w.heap[b]? =some (.cells cur T f))(hv:cur[o]? =some v):w.cell? ⟨b,o,none⟩=some v:=by
 simp [World.cell?,h,hv]
section
variable {w : World} {γ : Labels} {φ : Nat → Nat} {τ : St}
theorem iZ{P:Program}{t:TypeId}{b:Bool}(h:hC P t=some b)(w:World):(isAgg t).run P w=.ok b w:=by
 unfold hC at h;unfold isAgg;split at h
 ·rename_i hu;simp only[zj]at h;subst h;simp [run_underlying hu]
 ·rename_i hu;simp only[zj]at h;subst h;simp [run_underlying hu]
 ·rename_i d h1 h2 hu
  simp only[zj]at h;subst h;simp only[Sem.run_bind,run_underlying hu,Result.andThen_ok]
  rfl
 ·cases h
theorem sk(hS:Sim γ φ τ w){k off:Nat}{R:Root}{av:AV}(hR:τ k=some R)(hc:R.cells[off]? =some av):∃v,w.cell? ⟨φ k,off,none⟩=some v∧Rel w γ φ τ (cv k off av) v:=by
 rcases hS.root k R hR with h0|⟨cur,T,hh,hg,hl,hcells⟩
 ·simp [h0]at hc
 obtain⟨v,hv,hr⟩:=hcells off av hc
 refine⟨v,eZ hh hv, ?_⟩;cases av with
 |tr x=>
  simp only[cv,Rel];exact⟨R,x,cur,T,(0,0),hR,hc,hh,hv⟩
 |_=>exact hr
theorem yH(hS:Sim γ φ τ w){k j off n:Nat}{R:Root}{l:List D}{x:D}{u:Value}(hR:τ k=some R)(hc:R.cells[j]? =some (.tr (.sl n l)))(hx:l[off]? =some x)(hu:Rel w γ φ τ (.sptr k j off) u):
  ∃b v p,u=.pointer (some ⟨b,off,none⟩)∧w.cell? ⟨b,off,none⟩=some v∧Tree w γ k p x v:=by
 simp only[Rel]at hu;obtain⟨R',x',cur',T',f',b,n',c',hR',hx',hh',hcell,rfl⟩:=hu;rw[hR]at hR';obtain rfl:R=R':=by simpa using hR'
 rcases hS.root k R hR with h0|⟨cur,T,hh,hg,hl,hcells⟩
 ·simp [h0]at hc
 obtain⟨v,hv,hr⟩:=hcells j _ hc
 rw[hh]at hh';simp at hh';obtain⟨rfl,_,_⟩:=hh';rw[hv]at hcell;simp at hcell;subst hcell;simp only[CRel,Tree]at hr;obtain⟨A,c,e,hc',hr⟩:=hr;simp only[Value.slice.injEq]at e;obtain⟨e1,e2,e3⟩:=e;rcases hr with ⟨h1,_⟩|⟨b',cb,Tb,h1,hgb,hhb,htl⟩
 ·rw[h1]at e1;cases e1
 ·rw[h1]at e1
  simp at e1;subst e1;obtain⟨v,hv',ht⟩:=TreeL.get htl hx;exact⟨b,v,_,rfl,eZ hhb (by simpa using hv'),ht⟩
end
section
variable {P : Program} {s : St} {ev : O → AV} {k0 : Nat} {K : AV → Sto → Prop} {o : Oper}
theorem s_ld(t:TypeId)(a:Operand)(ho:o.op=.load t a){a':O}(ha:cO a=some a')(hg:hC P t=some false)(h:gI P s ev k0 (.ld a') K):Sound P s ev k0 o K:=by
 have hrun:∀{w:World} {ρ:Operand→Value} {ad:Addr} {v:Value},ρ a=.pointer (some ad)→w.cell? ad=some v→(execOp ρ o).run P w=.ok (.value v) w:=by
  intro w ρ ad v h1 h2;simp [execOp,ho,Instr.loadAt,Instr.sureAddr,loadVar,h1,iZ hg,h2]
 simp only[gI]at h;split at h
 ·rename_i k off hev
  split at h
  ·rename_i R hR
   split at h
   ·rename_i av hav
    refine⟨_,_,h,fun γ φ τ w ρ hS hsub hd hr _=> ?_⟩;have hx:=hr a a' ha (by simp [ho,Op.operands]);rw[hev]at hx;simp only[Rel]at hx;obtain⟨R',hR',hp⟩:=hx;have:=hsub _ _ hR';rw[hR]at this;obtain rfl:R=R':=by simpa using this
    obtain⟨v,hv,hrel⟩:=sk hS hR' hav;rw[hrun hp hv];simp only[Exec];exact GPost.pure hS hrel
   ·exact h.elim
  ·exact h.elim
 ·rename_i l off hev
  split at h
  ·rename_i x hx
   refine⟨_,_,h,fun γ φ τ w ρ hS hsub hd hr _=> ?_⟩;have hp:=hr a a' ha (by simp [ho,Op.operands]);rw[hev]at hp;simp only[Rel]at hp;obtain⟨b,o1,hp,hb,hl⟩:=hp;obtain⟨v,hv,hrel⟩:=hl.get hx;rw[hrun hp hv];simp only[Exec];exact GPost.pure hS (by simpa only[Rel]using hrel)
  ·exact h.elim
 ·rename_i k j off hev
  split at h
  ·rename_i R hR
   split at h
   ·rename_i n l hc
    split at h
    ·rename_i x hx
     refine⟨_,_,h,fun γ φ τ w ρ hS hsub hd hr _=> ?_⟩;have hp:=hr a a' ha (by simp [ho,Op.operands]);rw[hev]at hp;have hR':τ k=some R:=by
      simp only[Rel]at hp;obtain⟨R',_,_,_,_,_,_,_,hR',_⟩:=hp;have:=hsub _ _ hR';rw[hR]at this;obtain rfl:R=R':=by simpa using this
      exact hR'
     obtain⟨b,v,p,hp,hv,ht⟩:=yH hS hR' hc hx hp;rw[hrun hp hv];simp only[Exec];exact GPost.pure hS (by simpa only[Rel,Rd,Tree]using ht)
    ·rename_i x hx
     refine⟨_,_,h,fun γ φ τ w ρ hS hsub hd hr _=> ?_⟩;have hp:=hr a a' ha (by simp [ho,Op.operands]);rw[hev]at hp;have hR':τ k=some R:=by
      simp only[Rel]at hp;obtain⟨R',_,_,_,_,_,_,_,hR',_⟩:=hp;have:=hsub _ _ hR';rw[hR]at this;obtain rfl:R=R':=by simpa using this
      exact hR'
     obtain⟨b,v,p,hp,hv,ht⟩:=yH hS hR' hc hx hp;rw[hrun hp hv];simp only[Exec];exact GPost.pure hS (by simpa only[Rel,Rd,Tree]using ht)
    ·exact h.elim
   ·exact h.elim
  ·exact h.elim
 ·exact h.elim
theorem B9(k:Nat):∀(l:List AV) (j i:Nat),(cvL k j l)[i]? =(l[i]?).map (cv k (j+i))
 | [],_,_=>by simp [cvL]
 |x :: l,j,0=>by simp [cvL]
 |x :: l,j,i+1=>by
  simp only[cvL,List.getElem?_cons_succ];rw[B9 k l (j+1) i,show j+1+i=j+(i+1)by omega]
theorem B8(k:Nat):∀(l:List AV) (j:Nat),(cvL k j l).length=l.length
 | [],_=>rfl
 |x :: l,j=>by simp [cvL,B8 k l]
theorem jt{w:World}{ad:Addr}{n:Nat}{Q:Nat→Value→Prop}(h:∀j,j<n→∃v,w.cell? (ad.add j)=some v∧Q j v):∃vs:List Value,vs.length=n∧∀(j:Nat) (v:Value),vs[j]? =some v→w.cell? (ad.add j)=some v∧Q j v:=by
 refine⟨(List.range n).map fun j=>(w.cell? (ad.add j)).getD undef,by simp,fun j v hv=> ?_⟩;rw[List.getElem?_map]at hv;by_cases hj:j<n
 ·obtain⟨u,hu,hq⟩:=h j hj
  simp [hj,hu]at hv;subst hv;exact⟨hu,hq⟩
 ·simp [List.getElem?_eq_none (show (List.range n).length≤j by simp;omega)]at hv
theorem Nb(t:TypeId)(a:Operand)(ho:o.op=.load t a){a':O}{n:Nat}(ha:cO a=some a')(hg:hC P t=some true)(hn:szOf P t=some n)(h:gI P s ev k0 (.ldn n a') K):Sound P s ev k0 o K:=by
 have hrun:∀{w:World} {ρ:Operand→Value} {ad:Addr} {vs:List Value},ρ a=.pointer (some ad)→vs.length=n→(∀(j:Nat) (v:Value),vs[j]? =some v→w.cell? (ad.add j)=some v)→(execOp ρ o).run P w=.ok (.value (.agg vs.toArray)) w:=by
  intro w ρ ad vs h1 h2 h3;have hl:=run_loadCells_list (P:=P) w ad vs h3;rw[h2]at hl;obtain⟨i,hi,hsz⟩:∃i,P.info? t=some i∧i.size=n:=by simpa [szOf]using hn
  simp [execOp,ho,Instr.loadAt,Instr.sureAddr,loadVar,h1,iZ hg,sizeOf,typeInfo,hi,hsz,hl]
 simp only[gI]at h;split at h
 ·rename_i k off hev
  split at h
  ·rename_i R hR
   obtain⟨hle,h⟩:=h;refine⟨_,_,h,fun γ φ τ w ρ hS hsub hd hr _=> ?_⟩;have hx:=hr a a' ha (by simp [ho,Op.operands]);rw[hev]at hx;simp only[Rel]at hx;obtain⟨R',hR',hp⟩:=hx;have:=hsub _ _ hR';rw[hR]at this;obtain rfl:R=R':=by simpa using this
   obtain⟨vs,hvl,hvs⟩:=jt (w:=w) (ad:=⟨φ k,off,none⟩) (n:=n) (Q:=fun j v=>∀av,R.cells[off+j]? =some av→Rel w γ φ τ (cv k (off+j) av) v) (fun j hj=>by
    obtain⟨v,hv,hrel⟩:=sk hS hR' (off:=off+j) (av:=R.cells[off+j]'(by omega)) (by simp);exact⟨v,by rw[db];exact hv,fun av hav=>by rw[zg (by omega)]at hav;simp at hav;subst hav;exact hrel⟩)
   rw[hrun hp hvl (fun j v hv=>(hvs j v hv).1)];simp only[Exec];refine GPost.pure hS ?_;simp only[Rel];refine⟨_,rfl,RelL.of_get ?_ fun i x hx=> ?_⟩
   ·simp only[B8,List.length_take,List.length_drop];omega
   ·rw[B9]at hx
    simp only[zm,List.getElem?_take,List.getElem?_drop]at hx;obtain⟨av,hav,rfl⟩:=hx;split at hav
    ·rename_i hi
     have hlt:i<vs.length:=by omega
     exact⟨vs[i],by simp [hlt],(hvs i _ (by simp [hlt])).2 av hav⟩
    ·cases hav
  ·exact h.elim
 ·rename_i l off hev
  obtain⟨hle,h⟩:=h;refine⟨_,_,h,fun γ φ τ w ρ hS hsub hd hr _=> ?_⟩;have hp:=hr a a' ha (by simp [ho,Op.operands]);rw[hev]at hp;simp only[Rel]at hp;obtain⟨b,o1,hp,hb,hl⟩:=hp;obtain⟨vs,hvl,hvs⟩:=jt (w:=w) (ad:=⟨b,o1+off,none⟩) (n:=n) (Q:=fun j v=>∀x,l[off+j]? =some x→Rd w (Im w γ) x v) (fun j hj=>by
   obtain⟨v,hv,hrel⟩:=hl.get (i:=off+j) (x:=l[off+j]'(by omega)) (by simp);exact⟨v,by rw[db,Nat.add_assoc];exact hv,fun x hx=>by rw[zg (by omega)]at hx;simp at hx;subst hx;exact hrel⟩)
  rw[hrun hp hvl (fun j v hv=>(hvs j v hv).1)];simp only[Exec];refine GPost.pure hS ?_;simp only[Rel];refine⟨_,rfl,RelL.of_get ?_ fun i x hx=> ?_⟩
  ·simp only[List.length_map,List.length_take,List.length_drop];omega
  ·simp only[List.getElem?_map,zm,List.getElem?_take,List.getElem?_drop]at hx
   obtain⟨y,hy,rfl⟩:=hx;split at hy
   ·rename_i hi
    have hlt:i<vs.length:=by omega
    exact⟨vs[i],by simp [hlt],by simp only[Rel];exact(hvs i _ (by simp [hlt])).2 y hy⟩
   ·cases hy
 ·exact h.elim
end
end Go.Lift
namespace Go.Lift
open Go.RowKit
section
variable {P : Program} {s : St} {ev : O → AV} {k0 : Nat} {K : AV → Sto → Prop} {o : Oper}
theorem bD{x:AV}(h:K x [])(hrun:∀γ φ τ w (ρ:Operand→Value),Sim γ φ τ w→(∀k R,τ k=some R→s k=some R)→(∀X Y,cO X=some Y→X∈o.op.operands.toList→Rel w γ φ τ (ev Y) (ρ X))→
  ∃v,(execOp ρ o).run P w=.ok (.value v) w∧Rel w γ φ τ x v):Sound P s ev k0 o K:=by
 refine⟨_,_,h,fun γ φ τ w ρ hS hsub hd hr _=> ?_⟩;obtain⟨v,hv,hrel⟩:=hrun γ φ τ w ρ hS hsub hr;rw[hv];exact GPost.pure hS hrel
theorem J4{op:BinOp}{a b:Int}{K':AV→Prop}(h:binA op a b K'):∃x,K' x∧∀(t:TypeId) (X Y:Operand) (w:World),∃v,(do eqGuard op t X Y (.int .i64 a) (.int .i64 b);binOp op t (.int .i64 a) (.int .i64 b):Sem Value).run P w=.ok v w∧∀γ φ τ,Rel w γ φ τ x v:=by
 have hE:∀(t:TypeId) (X Y:Operand) (w:World),(eqGuard op t X Y (.int .i64 a) (.int .i64 b)).run P w=.ok () w:=by
  intro t X Y w;unfold eqGuard;cases op<;>rfl
 cases op with
 |add=>exact⟨_,h,fun t X Y w=>⟨_,by simp only[Sem.run_bind,hE];rfl,fun _ _ _=>bp⟩⟩
 |sub=>exact⟨_,h,fun t X Y w=>⟨_,by simp only[Sem.run_bind,hE];rfl,fun _ _ _=>bp⟩⟩
 |mul=>exact⟨_,h,fun t X Y w=>⟨_,by simp only[Sem.run_bind,hE];rfl,fun _ _ _=>bp⟩⟩
 |quo=>exact⟨_,h.2,fun t X Y w=>⟨_,by simp [hE,binOp,Op.intDiv,h.1],fun _ _ _=>bp⟩⟩
 |rem=>exact⟨_,h.2,fun t X Y w=>⟨_,by simp [hE,binOp,Op.intDiv,h.1],fun _ _ _=>bp⟩⟩
 |and=>exact⟨_,h,fun t X Y w=>⟨_,by simp only[Sem.run_bind,hE];rfl,fun _ _ _=>bp⟩⟩
 |or=>exact⟨_,h,fun t X Y w=>⟨_,by simp only[Sem.run_bind,hE];rfl,fun _ _ _=>bp⟩⟩
 |shl=>exact⟨_,h.2,fun t X Y w=>⟨_,by simp [hE,binOp,Op.shift,Int.not_lt.2 h.1,IntKind.bits],fun _ _ _=>bp⟩⟩
 |shr=>exact⟨_,h.2,fun t X Y w=>⟨_,by simp [hE,binOp,Op.shift,Int.not_lt.2 h.1,IntKind.bits],fun _ _ _=>bp⟩⟩
 |eql=>exact⟨_,h,fun t X Y w=>⟨_,by simp only[Sem.run_bind,hE];rfl,fun _ _ _=>fP⟩⟩
 |neq=>exact⟨_,h,fun t X Y w=>⟨_,by simp only[Sem.run_bind,hE];rfl,fun _ _ _=>fP⟩⟩
 |lss=>exact⟨_,h,fun t X Y w=>⟨_,by simp only[Sem.run_bind,hE];rfl,fun _ _ _=>fP⟩⟩
 |leq=>exact⟨_,h,fun t X Y w=>⟨_,by simp only[Sem.run_bind,hE];rfl,fun _ _ _=>fP⟩⟩
 |gtr=>exact⟨_,h,fun t X Y w=>⟨_,by simp only[Sem.run_bind,hE];rfl,fun _ _ _=>fP⟩⟩
 |geq=>exact⟨_,h,fun t X Y w=>⟨_,by simp only[Sem.run_bind,hE];rfl,fun _ _ _=>fP⟩⟩
 |xor=>exact⟨_,h,fun t X Y w=>⟨_,by simp only[Sem.run_bind,hE];rfl,fun _ _ _=>bp⟩⟩
 |andNot=>exact⟨_,h,fun t X Y w=>⟨_,by simp only[Sem.run_bind,hE];rfl,fun _ _ _=>bp⟩⟩
theorem Nm(op:BinOp)(t t':TypeId)(x y:Operand)(ho:o.op=.binOp op t x y t'){x' y':O}(hx:cO x=some x')(hy:cO y=some y')(h:gI P s ev k0 (.bin op x' y') K):Sound P s ev k0 o K:=by
 simp only[gI]at h;split at h
 ·rename_i a b ha hb'
  obtain⟨z,hK,hz⟩:=J4 (P:=P) h;refine bD hK fun γ φ τ w ρ hS hsub hr=> ?_
  have h1:=hr x x' hx (by simp [ho,Op.operands]);have h2:=hr y y' hy (by simp [ho,Op.operands]);rw[ha]at h1;rw[hb']at h2;obtain⟨v,hv,hrel⟩:=hz t x y w;refine⟨v, ?_,hrel γ φ τ⟩;simp only[execOp,ho,bX h1,bX h2,Sem.run_bind]at hv ⊢;rw[hv]
  rfl
 ·exact h.elim
theorem LV{op:BinOp}{y:Operand}{n:Nat}(h:shk op y=some n):op=.shr∧∃k c,y=.const (.int k c)∧0≤c∧n=c.toNat:=by
 unfold shk at h;split at h
 ·cases h
 ·split at h
  ·rename_i h0
   simp only[zj]at h;exact⟨rfl,_,_,rfl,h0,h.symm⟩
  ·cases h
 ·cases h
theorem N5(op:BinOp)(t t':TypeId)(x y:Operand){n:Nat}(ho:o.op=.binOp op t x y t'){x':O}(hx:cO x=some x')(hy:shk op y=some n)(h:gI P s ev k0 (.shk n x') K):Sound P s ev k0 o K:=by
 obtain⟨rfl,k,c,rfl,h0,rfl⟩:=LV hy;simp only[gI]at h;split at h
 ·rename_i a ha
  refine⟨_,_,h,fun γ φ τ w ρ hS hsub hd hr hρ=> ?_⟩;have h1:=hr x x' hx (by simp [ho,Op.operands]);rw[ha]at h1;have hrun:(execOp ρ o).run P w=.ok (.value (.int .i64 (a.fdiv (2 ^ (min c.toNat 64))))) w:=by
   simp [execOp,ho,bX h1,hρ.2,eqGuard,binOp,Op.shift,Int.not_lt.2 h0,IntKind.bits]
  rw[hrun];exact GPost.pure hS bp
 ·exact h.elim
theorem sg{t:TypeId}(hu:P.underlying t=some .bool)(a b:Bool)(w:World):(Op.equal t (.bool a) (.bool b)).run P w=.ok (a==b) w:=by
 unfold Op.equal;rw[show Op.maxDepth=9999+1 from rfl];unfold Op.equalIn;simp only[Sem.run_bind,run_underlying hu,Result.andThen_ok]
 rfl
theorem H1(op:BinOp)(n:Bool)(hop:(op=.eql∧n=false)∨(op=.neq∧n=true))(t t':TypeId)(x y:Operand)(ho:o.op=.binOp op t x y t'){x' y':O}(hx:cO x=some x')(hy:cO y=some y')(hu:P.underlying t=some .bool)
  (h:gI P s ev k0 (.binb n x' y') K):Sound P s ev k0 o K:=by
 simp only[gI]at h;split at h
 ·rename_i a b ha hb'
  refine bD h fun γ φ τ w ρ hS hsub hr=> ?_
  have h1:=hr x x' hx (by simp [ho,Op.operands]);have h2:=hr y y' hy (by simp [ho,Op.operands]);rw[ha]at h1;rw[hb']at h2;rcases hop with ⟨rfl,rfl⟩|⟨rfl,rfl⟩
  ·exact⟨.bool (a==b),by simp [execOp,ho,dI h1,dI h2,eqGuard,binOp,sg hu],by simp [Rel,Rd]⟩
  ·exact⟨.bool (!(a==b)),by simp [execOp,ho,dI h1,dI h2,eqGuard,binOp,sg hu],by simp [Rel,Rd]⟩
 ·exact h.elim
theorem gc{w:World}{γ:Labels}{φ:Nat→Nat}{τ:St}{b:ByteArray}{v:Value}(h:Rel w γ φ τ (.d (.str b)) v):v=.string b:=by simpa [Rel,Rd]using h
theorem BO{w:World}{γ:Labels}{φ:Nat→Nat}{τ:St}{b:Int}{v:Value}(h:Rel w γ φ τ (.d (.byte b)) v):v=.int .u8 b:=by simpa [Rel,Rd]using h
theorem Nj(t t':TypeId)(x y:Operand)(ho:o.op=.binOp .add t x y t'){x' y':O}(hx:cO x=some x')(hy:cO y=some y')(h:gI P s ev k0 (.cat x' y') K):Sound P s ev k0 o K:=by
 simp only[gI]at h;split at h
 ·rename_i a b ha hb'
  refine bD h.2 fun γ φ τ w ρ hS hsub hr=> ?_
  have h1:=hr x x' hx (by simp [ho,Op.operands]);have h2:=hr y y' hy (by simp [ho,Op.operands]);rw[ha]at h1;rw[hb']at h2;exact⟨.string (a++b),by simp [execOp,ho,gc h1,gc h2,eqGuard,binOp,run_string_add_sum w a b h.1],by simp [Rel,Rd]⟩
 ·exact h.elim
theorem H0(op:BinOp)(n:Bool)(hop:(op=.eql∧n=false)∨(op=.neq∧n=true))(t t':TypeId)(x y:Operand)(ho:o.op=.binOp op t x y t'){x' y':O}(hx:cO x=some x')(hy:cO y=some y')
  (h:gI P s ev k0 (.eqst n x' y') K):Sound P s ev k0 o K:=by
 simp only[gI]at h;split at h
 ·rename_i a b ha hb'
  refine bD h fun γ φ τ w ρ hS hsub hr=> ?_
  have h1:=hr x x' hx (by simp [ho,Op.operands]);have h2:=hr y y' hy (by simp [ho,Op.operands]);rw[ha]at h1;rw[hb']at h2;rcases hop with ⟨rfl,rfl⟩|⟨rfl,rfl⟩
  ·exact⟨.bool (a.toList==b.toList),by simp [execOp,ho,gc h1,gc h2,eqGuard,binOp_string_eql,Sem.run_pure],by simp [Rel,Rd]⟩
  ·exact⟨.bool (!(a.toList==b.toList)),by simp [execOp,ho,gc h1,gc h2,eqGuard,binOp_string_neq,Sem.run_pure],by simp [Rel,Rd]⟩
 ·exact h.elim
theorem M2(sT dT:TypeId)(x:Operand)(ho:o.op=.convert sT dT x){x':O}(hx:cO x=some x')(hs:P.underlying sT=some (.int .u8))(hd:P.underlying dT=some (.int .i64))(h:gI P s ev k0 (.cvt false x') K):Sound P s ev k0 o K:=by
 simp only[gI]at h;split at h
 ·rename_i n ha
  refine bD h.2 fun γ φ τ w ρ hS hsub hr=> ?_
  have h1:=hr x x' hx (by simp [ho,Op.operands]);rw[ha]at h1;exact⟨.int .i64 (IntKind.i64.wrap n),by simp [execOp,ho,BO h1,convert,run_underlying hs,run_underlying hd,Conv.intToInt],bp⟩
 ·rename_i n ha
  exact absurd h.1 (by simp)
 ·exact h.elim
theorem M1(sT dT:TypeId)(x:Operand)(ho:o.op=.convert sT dT x){x':O}(hx:cO x=some x')(hs:P.underlying sT=some (.int .i64))(hd:P.underlying dT=some (.int .u8))(h:gI P s ev k0 (.cvt true x') K):Sound P s ev k0 o K:=by
 simp only[gI]at h;split at h
 ·rename_i n ha
  exact absurd h.1 (by simp)
 ·rename_i n ha
  refine bD h.2 fun γ φ τ w ρ hS hsub hr=> ?_
  have h1:=hr x x' hx (by simp [ho,Op.operands]);rw[ha]at h1;exact⟨.int .u8 (IntKind.u8.wrap n),by simp [execOp,ho,bX h1,convert,run_underlying hs,run_underlying hd,Conv.intToInt],by simp [Rel,Rd]⟩
 ·exact h.elim
theorem N6(t:TypeId)(x:Operand)(ho:o.op=.unOp .not t x){x':O}(hx:cO x=some x')(h:gI P s ev k0 (.not x') K):Sound P s ev k0 o K:=by
 simp only[gI]at h;split at h
 ·rename_i a ha
  refine bD h fun γ φ τ w ρ hS hsub hr=> ?_
  have h1:=hr x x' hx (by simp [ho,Op.operands]);rw[ha]at h1;exact⟨.bool !a,by simp [execOp,ho,dI h1,Op.unary],fP⟩
 ·exact h.elim
theorem N7(t:TypeId)(x:Operand)(ho:o.op=.unOp .neg t x){x':O}(hx:cO x=some x')(h:gI P s ev k0 (.neg x') K):Sound P s ev k0 o K:=by
 simp only[gI]at h;split at h
 ·rename_i a ha
  refine bD h fun γ φ τ w ρ hS hsub hr=> ?_
  have h1:=hr x x' hx (by simp [ho,Op.operands]);rw[ha]at h1;exact⟨.int .i64 (IntKind.i64.wrap (0-a)),by simp [execOp,ho,bX h1,Op.unary,Op.intArith],bp⟩
 ·exact h.elim
theorem Nf(t:TypeId)(x:Operand)(f:Nat)(ho:o.op=.fieldAddr t x f){x':O}{fs:Array Field}{fd:Field}{n:Nat}(hx:cO x=some x')(hu:P.underlying t=some (.struct fs))(hf:fs[f]? =some fd)(hn:szOf P fd.type=some n)(h1:1≤n)
  (h:gI P s ev k0 (.fld fd.offset x') K):Sound P s ev k0 o K:=by
 have hrun:∀{w:World} {ρ:Operand→Value} {b o1:Nat},ρ x=.pointer (some ⟨b,o1,none⟩)→(execOp ρ o).run P w=.ok (.value (.pointer (some ⟨b,o1+fd.offset,none⟩))) w:=by
  intro w ρ b o1 hp;obtain⟨i,hi,hsz⟩:∃i,P.info? fd.type=some i∧i.size=n:=by simpa [szOf]using hn
  have h0:¬ n=0:=by omega
  simp [execOp,ho,Instr.fieldAt,run_underlying hu,hf,Instr.sureAddr,hp,fieldPlace,sizeOf,typeInfo,hi,hsz,h0,db]
 simp only[gI]at h;split at h
 ·rename_i k o1 hev
  refine bD h fun γ φ τ w ρ hS hsub hr=> ?_
  have hp:=hr x x' hx (by simp [ho,Op.operands]);rw[hev]at hp;simp only[Rel]at hp;obtain⟨R,hR,hp⟩:=hp;exact⟨_,hrun hp,by simp only[Rel];exact⟨R,hR,trivial⟩⟩
 ·rename_i l o1 hev
  refine bD h fun γ φ τ w ρ hS hsub hr=> ?_
  have hp:=hr x x' hx (by simp [ho,Op.operands]);rw[hev]at hp;simp only[Rel]at hp;obtain⟨b,o2,hp,hb,hl⟩:=hp;exact⟨_,hrun hp,by simp only[Rel];exact⟨b,o2,by rw[Nat.add_assoc],hb,hl⟩⟩
 ·exact h.elim
theorem Nn(t:TypeId)(x i:Operand)(ho:o.op=.indexAddr t x i){x' i':O}{e:TypeId}{n m:Nat}(hx:cO x=some x')(hi:cO i=some i')(hu:P.underlying t=some (.array m e))(hn:szOf P e=some n)
  (h:gI P s ev k0 (.aix n m x' i') K):Sound P s ev k0 o K:=by
 have hrun:∀{w:World} {ρ:Operand→Value} {b o1:Nat} {j:Int},ρ x=.pointer (some ⟨b,o1,none⟩)→ρ i=.int .i64 j→0≤j→j<m→(execOp ρ o).run P w=.ok (.value (.pointer (some ⟨b,o1+j.toNat*n,none⟩))) w:=by
  intro w ρ b o1 j hp hj h0 h1;obtain⟨ie,hie,hsz⟩:∃i,P.info? e=some i∧i.size=n:=by simpa [szOf]using hn
  simp [execOp,ho,Instr.indexAt,run_underlying hu,hp,hj,asIntOf,sizeOf,typeInfo,hie,hsz,db,h0,h1,Instr.sureAddr]
 simp only[gI]at h;split at h
 ·rename_i k off j hev hev'
  obtain⟨⟨h0,h1⟩,h⟩:=h;refine bD h fun γ φ τ w ρ hS hsub hr=> ?_
  have hp:=hr x x' hx (by simp [ho,Op.operands]);have hj:=hr i i' hi (by simp [ho,Op.operands]);rw[hev]at hp;rw[hev']at hj;simp only[Rel]at hp;obtain⟨R,hR,hp⟩:=hp;exact⟨_,hrun hp (bX hj) h0 h1,by simp only[Rel];exact⟨R,hR,trivial⟩⟩
 ·rename_i l off j hev hev'
  obtain⟨⟨h0,h1⟩,h⟩:=h;refine bD h fun γ φ τ w ρ hS hsub hr=> ?_
  have hp:=hr x x' hx (by simp [ho,Op.operands]);have hj:=hr i i' hi (by simp [ho,Op.operands]);rw[hev]at hp;rw[hev']at hj;simp only[Rel]at hp;obtain⟨b,o1,hp,hb,hl⟩:=hp;exact⟨_,hrun hp (bX hj) h0 h1,by simp only[Rel];exact⟨b,o1,by rw[Nat.add_assoc],hb,hl⟩⟩
 ·exact h.elim
theorem Nc(t:TypeId)(x i:Operand)(ho:o.op=.index t x i){x' i':O}{e:TypeId}{m:Nat}(hx:cO x=some x')(hi:cO i=some i')(hu:P.underlying t=some (.array m e))(hg:hC P e=some false)(hn:szOf P e=some 1)
  (h:gI P s ev k0 (.ixa m x' i') K):Sound P s ev k0 o K:=by
 simp only[gI]at h;split at h
 ·rename_i l j hev hev'
  split at h
  ·rename_i y hy
   obtain⟨⟨h0,h1⟩,h⟩:=h;refine bD h fun γ φ τ w ρ hS hsub hr=> ?_
   have hp:=hr x x' hx (by simp [ho,Op.operands]);have hj:=hr i i' hi (by simp [ho,Op.operands]);rw[hev]at hp;rw[hev']at hj;simp only[Rel]at hp;obtain⟨vs,hp,hl⟩:=hp;obtain⟨v,hv,hrel⟩:=hl.get hy;have hv':vs[j.toNat]? =some v:=by simpa using hv
   have hj:=bX hj;obtain⟨ie,hie,hsz⟩:∃i,P.info? e=some i∧i.size=1:=by simpa [szOf]using hn
   have hagg:=fun w=>iZ hg w
   refine⟨v, ?_,hrel⟩;simp [execOp,ho,Instr.index,run_underlying hu,hp,hj,asIntOf,sizeOf,typeInfo,hie,hsz,h0,h1,part,hagg,hv']
  ·exact h.elim
 ·exact h.elim
theorem Nd(t:TypeId)(x i:Operand)(ho:o.op=.indexAddr t x i){x' i':O}{e:TypeId}{n:Nat}(hx:cO x=some x')(hi:cO i=some i')(hu:P.underlying t=some (.slice e))(hn:szOf P e=some n)
  (h:gI P s ev k0 (.idx n x' i') K):Sound P s ev k0 o K:=by
 have hrun:∀{w:World} {ρ:Operand→Value} {b o1 m c:Nat} {j:Int},ρ x=.slice (some ⟨b,o1,none⟩) m c→ρ i=.int .i64 j→0≤j→j<m→(execOp ρ o).run P w=.ok (.value (.pointer (some ⟨b,o1+j.toNat*n,none⟩))) w:=by
  intro w ρ b o1 m c j hp hj h0 h1;obtain⟨ie,hie,hsz⟩:∃i,P.info? e=some i∧i.size=n:=by simpa [szOf]using hn
  simp [execOp,ho,Instr.indexAt,run_underlying hu,hp,hj,asIntOf,sizeOf,typeInfo,hie,hsz,db,h0,h1]
 simp only[gI]at h;split at h
 ·rename_i k off m j hev hev'
  obtain⟨⟨h0,h1⟩,h⟩:=h;refine bD h fun γ φ τ w ρ hS hsub hr=> ?_
  have hp:=hr x x' hx (by simp [ho,Op.operands]);have hj:=hr i i' hi (by simp [ho,Op.operands]);rw[hev]at hp;rw[hev']at hj;simp only[Rel]at hp;obtain⟨R,hR,⟨_,hm,_⟩|⟨c,cur,T,hp,_⟩⟩:=hp
  ·omega
  ·exact⟨_,hrun hp (bX hj) h0 h1,by simp only[Rel];exact⟨R,hR,trivial⟩⟩
 ·rename_i m l j hev hev'
  obtain⟨⟨h0,h1⟩,h⟩:=h;refine bD h fun γ φ τ w ρ hS hsub hr=> ?_
  have hp:=hr x x' hx (by simp [ho,Op.operands]);have hj:=hr i i' hi (by simp [ho,Op.operands]);rw[hev]at hp;rw[hev']at hj;simp only[Rel,Rd]at hp;obtain⟨A,c,hp,hc,⟨hm,_⟩|⟨b,o1,rfl,hb,hl⟩⟩:=hp
  ·omega
  ·exact⟨_,hrun hp (bX hj) h0 h1,by simp only[Rel];exact⟨b,o1,rfl,hb,hl⟩⟩
 ·rename_i k j0 j hev hev'
  split at h
  ·rename_i R hR
   split at h
   ·rename_i m l hc
    obtain⟨⟨h0,h1⟩,h⟩:=h;refine bD h fun γ φ τ w ρ hS hsub hr=> ?_
    have hp:=hr x x' hx (by simp [ho,Op.operands]);have hj:=hr i i' hi (by simp [ho,Op.operands]);rw[hev]at hp;rw[hev']at hj;simp only[Rel]at hp;obtain⟨R',x1,cur,T,f,hR',hx1,hh,hcell⟩:=hp;have:=hsub _ _ hR';rw[hR]at this;obtain rfl:R=R':=by simpa using this
    rcases hS.root k R hR' with e0|⟨cur',T',hh',hg,hl,hcells⟩
    ·simp [e0]at hc
    obtain⟨v,hv,hrel⟩:=hcells j0 _ hc
    rw[hh]at hh';simp at hh';obtain⟨rfl,_,_⟩:=hh';rw[hv]at hcell;simp at hcell;subst hcell;simp only[CRel,Tree]at hrel;obtain⟨A,c,e,hc',hrel⟩:=hrel;rcases hrel with ⟨_,hm,_⟩|⟨b,cb,Tb,rfl,hgb,hhb,htl⟩
    ·omega
    ·exact⟨_,hrun e (bX hj) h0 h1,by simp only[Rel];exact⟨R,_,cur,T,f,b,m,c,hR',hc,hh,by rw[hv,e],by simp⟩⟩
   ·exact h.elim
  ·exact h.elim
 ·exact h.elim
theorem tB{w:World}{γ:Labels}{φ:Nat→Nat}{s:St}(v:Value):Rel w γ φ s ((cV v).getD .any) v:=by
 cases h:cV v with
 |none=>simp [Rel]
 |some x=>exact MQ h
theorem N8(x:Operand)(ho:o.op=.nilCheck x){x':O}(hx:cO x=some x')(h:gI P s ev k0 (.nck x') K):Sound P s ev k0 o K:=by
 simp only[gI]at h;split at h
 ·rename_i k off hev
  refine bD h fun γ φ τ w ρ hS hsub hr=> ?_
  have hp:=hr x x' hx (by simp [ho,Op.operands]);rw[hev]at hp;have hp':=hp;simp only[Rel]at hp';obtain⟨R,hR,hp'⟩:=hp';exact⟨ρ x,by simp [execOp,ho,hp'],hp⟩
 ·rename_i l off hev
  refine bD h fun γ φ τ w ρ hS hsub hr=> ?_
  have hp:=hr x x' hx (by simp [ho,Op.operands]);rw[hev]at hp;have hp':=hp;simp only[Rel]at hp';obtain⟨b,o1,hp',_⟩:=hp';exact⟨ρ x,by simp [execOp,ho,hp'],hp⟩
 ·rename_i k j off hev
  refine bD h fun γ φ τ w ρ hS hsub hr=> ?_
  have hp:=hr x x' hx (by simp [ho,Op.operands]);rw[hev]at hp;have hp':=hp;simp only[Rel]at hp';obtain⟨R,z,cur,T,f,b,n,c,_,_,_,_,hp'⟩:=hp';exact⟨ρ x,by simp [execOp,ho,hp'],hp⟩
 ·exact h.elim
theorem Ng(t:TypeId)(x:Operand)(f:Nat)(ho:o.op=.field t x f){x':O}{fs:Array Field}{fd:Field}{n:Nat}{ag:Bool}(hx:cO x=some x')(hu:P.underlying t=some (.struct fs))(hf:fs[f]? =some fd)(hg:hC P fd.type=some ag)(hn:szOf P fd.type=some n)
  (h:gI P s ev k0 (.fdv fd.offset n ag x') K):Sound P s ev k0 o K:=by
 obtain⟨ie,hie,hsz⟩:∃i,P.info? fd.type=some i∧i.size=n:=by simpa [szOf]using hn
 have hagg:=fun w=>iZ hg w
 simp only[gI]at h;split at h
 ·rename_i l hev
  split at h
  ·rename_i htrue
   obtain⟨hlen,h⟩:=h;refine bD h fun γ φ τ w ρ hS hsub hr=> ?_
   have hp:=hr x x' hx (by simp [ho,Op.operands]);rw[hev]at hp;simp only[Rel]at hp;obtain⟨vs,hp,hl⟩:=hp;refine⟨.agg (vs.extract fd.offset (fd.offset+n)), ?_, ?_⟩
   ·simp [execOp,ho,Instr.field,run_underlying hu,hp,hf,part,hagg,htrue,sizeOf,typeInfo,hie,hsz,asAgg]
   ·simp only[Rel]
    refine⟨_,rfl, ?_⟩;have:=(hl.drop fd.offset).take n;simpa [List.extract_eq_take_drop]using this
  ·rename_i hfalse
   split at h
   ·rename_i y hy
    refine bD h fun γ φ τ w ρ hS hsub hr=> ?_
    have hp:=hr x x' hx (by simp [ho,Op.operands]);rw[hev]at hp;simp only[Rel]at hp;obtain⟨vs,hp,hl⟩:=hp;obtain⟨v,hv,hrel⟩:=hl.get hy;have hv':vs[fd.offset]? =some v:=by simpa using hv
    refine⟨v, ?_,hrel⟩;simp [execOp,ho,Instr.field,run_underlying hu,hp,hf,part,hagg,hfalse,hv',asAgg]
   ·exact h.elim
 ·exact h.elim
theorem uF{w:World}{γ:Labels}{φ:Nat→Nat}{τ:St}:∀{l:List AV} {a:List Int} {vs:List Value},sX l=some a→RelL w γ φ τ l vs→vs=a.map (.int .i64)
 | [],a,vs,h,hr=>by
  simp only[sX,zj]at h;simp only[RelL]at hr;subst h hr
  rfl
 |x :: l,a,vs,h,hr=>by
  unfold sX at h;split at h
  ·rename_i hh;cases hh
  ·rename_i z l' hh
   simp only[List.cons.injEq]at hh;obtain⟨rfl,rfl⟩:=hh;simp only[zm]at h;obtain⟨b,hb,rfl⟩:=h;simp only[RelL]at hr;obtain⟨v,vs',rfl,hx,hl⟩:=hr;rw[bX hx,uF hb hl]
   rfl
  ·cases h
theorem qF(d:Nat)(w:World)(xs ys:List Int)(hxy:xs.length=ys.length):∀(fs:List Field) (i:Nat),i+fs.length=xs.length→(fs.zipIdx i).all (fun (f,i)=>f.name != "_" &&f.offset==i&&(match P.underlying f.type with
   |some (.int .i64)=>true
   |_=>false))=true→
  (Op.eqFields (d+1) (xs.map (Value.int .i64)).toArray (ys.map (Value.int .i64)).toArray fs).run P w=.ok (decide (xs.drop i=ys.drop i)) w
 | [],i,hi,_=>by
  have h1:xs.drop i=[]:=List.drop_of_length_le (by simp at hi;omega);have h2:ys.drop i=[]:=List.drop_of_length_le (by simp at hi;omega);simp [Op.eqFields,h1,h2]
 |f :: fs,i,hi,hall=>by
  simp only[List.zipIdx_cons,List.all_cons,Bool.and_eq_true]at hall;obtain⟨⟨⟨h1,h2⟩,h3⟩,hall⟩:=hall;have hoff:f.offset=i:=by simpa using h2
  have hname:f.name≠ "_" :=by simpa using h1
  have hu:P.underlying f.type=some (.int .i64):=by
   split at h3
   ·assumption
   ·cases h3
  have hag:hC P f.type=some false:=by simp [hC,hu]
  have hagg:=fun w=>iZ hag w
  have hix:i<xs.length:=by simp at hi;omega
  have hiy:i<ys.length:=by omega
  have ih:=qF d w xs ys hxy fs (i+1) (by simp at hi;omega) hall;have ex:(part f.type (xs.map (Value.int .i64)).toArray f.offset).run P w=.ok (.int .i64 xs[i]) w:=by simp [part,hagg,hoff,hix]
  have ey:(part f.type (ys.map (Value.int .i64)).toArray f.offset).run P w=.ok (.int .i64 ys[i]) w:=by simp [part,hagg,hoff,hiy]
  have ee:=run_equalIn_int w d f.type .i64 .i64 xs[i] ys[i] hu;have hdx:xs.drop i=xs[i] :: xs.drop (i+1):=List.drop_eq_getElem_cons hix;have hdy:ys.drop i=ys[i] :: ys.drop (i+1):=List.drop_eq_getElem_cons hiy;unfold Op.eqFields;rw[if_pos hname];simp only[Sem.run_bind,ex,ey,ee,Result.andThen_ok];by_cases hxye:xs[i]=ys[i]
  ·have hb:(xs[i]==ys[i])=true:=by simp [hxye]
   rw[hb];simp only[Bool.not_true,Bool.false_eq_true,if_false,ih,hdx,hdy,hxye,List.cons.injEq,true_and]
  ·have hb:(xs[i]==ys[i])=false:=by simp [hxye]
   have hne:¬ xs.drop i=ys.drop i:=fun e=>by rw[hdx,hdy]at e;exact hxye (List.cons.inj e).1
   rw[hb,decide_eq_false hne];simp only[Bool.not_false,if_true,Sem.run_pure]
theorem Le(op:BinOp)(ng:Bool)(hop:(op=.eql∧ng=false)∨(op=.neq∧ng=true))(t t':TypeId)(x y:Operand)(ho:o.op=.binOp op t x y t'){x' y':O}{fs:Array Field}(hx:cO x=some x')(hy:cO y=some y')(hu:P.underlying t=some (.struct fs))
  (hfl:Lj P fs=true) (hst:P.stoodInHeld t=false) (hgu:P.eqGuardType P.depth t=false) (h:gI P s ev k0 (.eqs ng fs.size x' y') K):Sound P s ev k0 o K:=by
 simp only[gI]at h;split at h
 ·rename_i l m hev hev'
  split at h
  ·rename_i a b ha hb
   obtain⟨⟨la,lb⟩,h⟩:=h;refine bD h fun γ φ τ w ρ hS hsub hr=> ?_
   have hp:=hr x x' hx (by simp [ho,Op.operands]);have hq:=hr y y' hy (by simp [ho,Op.operands]);rw[hev]at hp;rw[hev']at hq;simp only[Rel]at hp hq;obtain⟨vs,hp,hl⟩:=hp;obtain⟨us,hq,hm⟩:=hq;have e1:vs=(a.map (Value.int .i64)).toArray:=by rw[← uF ha hl]
   have e2:us=(b.map (Value.int .i64)).toArray:=by rw[← uF hb hm]
   subst e1 e2;have hfo:P.fieldsOf t=fs:=by simp [Program.fieldsOf,hu]
   have hrun:(Op.equalIn 10000 t (.agg (a.map (Value.int .i64)).toArray) (.agg (b.map (Value.int .i64)).toArray)).run P w=.ok (decide (a=b)) w:=by
    rw[run_equalIn_agg w 9999 t _ _ (by rw[hfo];exact hu) hst,hfo,qF 9998 w a b (by omega) fs.toList 0 (by simp;omega) hfl]
    simp
   refine⟨.bool (ng ^^ decide (a=b)), ?_,by simp [Rel,Rd]⟩;rcases hop with ⟨rfl,rfl⟩|⟨rfl,rfl⟩
   ·simp [execOp,ho,hp,hq,run_eqGuard_agg w _ t x y _ _ hgu,run_eql_struct,hrun,Result.andThen]
   ·simp [execOp,ho,hp,hq,run_eqGuard_agg w _ t x y _ _ hgu,run_neq_struct,hrun,Result.andThen]
  ·exact h.elim
 ·exact h.elim
theorem Ef(w:World){t e:TypeId}(hu:P.underlying t=some (.slice e))(A:Option Addr)(n c:Nat):(Op.equal t (.slice A n c) (.slice none 0 0)).run P w=.ok A.isNone w:=by
 unfold Op.equal
 show (Op.equalIn (9999+1) t _ _).run P w=_
 unfold Op.equalIn;simp only[Sem.run_bind,run_underlying hu,Result.andThen_ok];cases A<;>rfl
theorem Ld(op:BinOp)(ng:Bool)(hop:(op=.eql∧ng=false)∨(op=.neq∧ng=true))(t t':TypeId)(x y:Operand)(ho:o.op=.binOp op t x y t'){x' y':O}{e:TypeId}(hx:cO x=some x')(hy:cO y=some y')(hu:P.underlying t=some (.slice e))
  (h:gI P s ev k0 (.isn ng x' y') K):Sound P s ev k0 o K:=by
 have key:∀(b:Bool),ev y'=.nil→K (.d (.bool b)) []→(∀γ φ τ w (v:Value),(∀k R,τ k=some R→s k=some R)→Rel w γ φ τ (ev x') v→∃A n c,v=.slice A n c∧(ng ^^ A.isNone)=b)→Sound P s ev k0 o K:=fun b hyn hK hv=>by
  refine bD hK fun γ φ τ w ρ hS hsub hr=> ?_
  have hp:=hr x x' hx (by simp [ho,Op.operands]);have hq:=hr y y' hy (by simp [ho,Op.operands]);rw[hyn]at hq;have hcv:=dX hq;obtain⟨A,n,c,hp,hb⟩:=hv γ φ τ w _ hsub hp;refine⟨.bool b, ?_,by simp [Rel,Rd]⟩;have hG:∀op':BinOp,(eqGuard op' t x y (.slice A n c) (.slice none 0 0)).run P w=.ok () w:=fun op'=>by
   unfold eqGuard;cases op'<;>rfl
  have h1:(binOp .eql t (.slice A n c) (.slice none 0 0)).run P w=.ok (.bool A.isNone) w:=by
   have e:binOp .eql t (.slice A n c) (.slice none 0 0)=(do pure (.bool (← Op.equal t (.slice A n c) (.slice none 0 0)))):=rfl;rw[e];simp only[Sem.run_bind,Ef w hu,Result.andThen_ok,Sem.run_pure]
  have h2:(binOp .neq t (.slice A n c) (.slice none 0 0)).run P w=.ok (.bool (!A.isNone)) w:=by
   have e:binOp .neq t (.slice A n c) (.slice none 0 0)=(do pure (.bool (!(← Op.equal t (.slice A n c) (.slice none 0 0))))):=rfl;rw[e];simp only[Sem.run_bind,Ef w hu,Result.andThen_ok,Sem.run_pure]
  rcases hop with ⟨rfl,rfl⟩|⟨rfl,rfl⟩
  ·have hb':A.isNone=b:=by rw[← hb];simp
   simp only[execOp,ho,hp,hcv,Sem.run_bind,hG,Result.andThen_ok,h1,hb',Sem.run_pure]
  ·have hb':(!A.isNone)=b:=by rw[← hb];simp
   simp only[execOp,ho,hp,hcv,Sem.run_bind,hG,Result.andThen_ok,h2,hb',Sem.run_pure]
 simp only[gI]at h;split at h
 ·rename_i hev hev'
  refine key _ hev' h fun γ φ τ w v _ hr=> ?_
  rw[hev]at hr;exact⟨none,0,0,dX hr,by simp⟩
 ·rename_i k off n hev hev'
  refine key _ hev' h.2 fun γ φ τ w v _ hr=> ?_
  rw[hev]at hr;simp only[Rel]at hr;obtain⟨R,_,h1|⟨c,cur,T,h1,_⟩⟩:=hr
  ·exact absurd h1.2.1 (by omega)
  ·exact⟨_,_,_,h1,by simp⟩
 ·exact h.elim
theorem Nh(x:Operand)(i:Nat)(ho:o.op=.extract x i){x':O}(hx:cO x=some x')(h:gI P s ev k0 (.ext i x') K):Sound P s ev k0 o K:=by
 simp only[gI]at h;split at h
 ·rename_i l hev
  split at h
  ·rename_i y hy
   refine bD h fun γ φ τ w ρ hS hsub hr=> ?_
   have hp:=hr x x' hx (by simp [ho,Op.operands]);rw[hev]at hp;simp only[Rel]at hp;obtain⟨vs,hp,hl⟩:=hp;obtain⟨v,hv,hrel⟩:=hl.get hy;have hv':vs[i]? =some v:=by simpa using hv
   exact⟨v,by simp [execOp,ho,hp,Instr.extract,hv'],hrel⟩
  ·exact h.elim
 ·exact h.elim
end
end Go.Lift
namespace Go.Lift
open Go.RowKit
theorem Ji{x:Int}(h: -9223372036854775808≤x∧x≤9223372036854775807):IntKind.i64.wrap x=x:=by rw[IntKind.wrap_i64];omega
section
variable {P : Program} {s : St} {ev : O → AV} {k0 : Nat} {K : AV → Sto → Prop} {o : Oper}
theorem LZ(t:TypeId)(l c:Operand)(ho:o.op=.makeSlice t l c){l' c':O}{e:TypeId}{i:TypeInfo}{z:List AV}(hl:cO l=some l')(hc:cO c=some c')(hu:P.underlying t=some (.slice e))(hi:P.info? e=some i)(hz:zOf P e=some z)
  (h1:1≤i.bytes) (h:gI P s ev k0 (.make i.size i.bytes z l' c') K):Sound P s ev k0 o K:=by
 simp only[gI]at h;split at h
 ·rename_i a b ha hb
  obtain⟨⟨g0,g1,g2⟩,h⟩:=h;refine⟨_,_,h,fun γ φ τ w ρ hS hsub hd hr _=> ?_⟩;have hx:=hr l l' hl (by simp [ho,Op.operands]);have hy:=hr c c' hc (by simp [ho,Op.operands]);rw[ha]at hx;rw[hb]at hy;obtain⟨i',v,hi',hv,hcs,hlen,hsize⟩:=j9 hz;rw[hi]at hi';obtain rfl:i=i':=by simpa using hi'
  have hbig:b≤281474976710656:=by
   have h1':(1:Int)≤i.bytes:=by omega
   have:1*b≤i.bytes*b:=Int.mul_le_mul_of_nonneg_right h1' (by omega);omega
  have hrun:∃T,(execOp ρ o).run P w=.ok (.value (.slice (some ⟨w.heap.size,0,none⟩) a.toNat b.toNat)) (w.alloc (.cells ((Array.range (b.toNat*i.size)).map (v.cells[· % v.cells.size]!)) T)):=by
   refine⟨e, ?_⟩;have hm:=run_make (P:=P) w t e i v hu hi hv .i64 .i64 a b g0 g1 g2 (by omega);simp only[execOp,ho,bX hx,bX hy,Sem.run_bind,hm]
   rfl
  obtain⟨T,hrun⟩:=hrun;rw[hrun];simp only[Exec];have hab:a.toNat≤b.toNat:=by omega
  have hm:a.toNat*i.size≤b.toNat*i.size:=Nat.mul_le_mul_right _ hab;refine GPost.alloc hS (by simpa using hd 0 (by simp)) _ T _ (by simp only[lL,hlen,Array.size_map,Array.size_range];exact hm) (fun j av hav=>tU hcs hlen _ _ hm j av hav) (ow _ _ _ _ _ hab (fun _=>by simp))
 ·exact h.elim
theorem Na(c:Call)(x:Operand)(t:TypeId)(ho:o.op=.call c)(hcal:c.callee=.builtin .len)(hargs:c.args.toList=[x])(hat:c.argTypes.toList=[t]){x':O}(hx:cO x=some x')(hty':∃e,P.underlying t=some (.slice e))(h:gI P s ev k0 (.len x') K):Sound P s ev k0 o K:=by
 simp only[gI]at h;split at h
 ·rename_i n hn
  refine bD h fun γ φ τ w ρ hS hsub hr=> ?_
  have hp:=hr x x' hx (by simp [ho,Op.operands,Call.operands,hcal,hargs]);have ha:c.args= #[x]:=by rw[← Array.toArray_toList (xs:=c.args),hargs]
  have ht:c.argTypes= #[t]:=by rw[← Array.toArray_toList (xs:=c.argTypes),hat]
  have hsl:∀{A:Option Addr} {m cc:Nat},ρ x=.slice A m cc→(∃e,P.underlying t=some (.slice e))→(execOp ρ o).run P w=.ok (.value (.int .i64 m)) w:=by
   intro A m cc h1 ⟨e,he⟩;simp [execOp,ho,resolve,hcal,ha,ht,invoke,builtin,Builtin.len_,run_underlying he,h1,goInt]
  unfold lenA at hn;split at hn
  ·rename_i hev
   simp only[zj]at hn;subst hn;rw[hev]at hp;exact⟨_,hsl (dX hp) hty',bp⟩
  ·rename_i m l hev
   simp only[zj]at hn;subst hn;rw[hev]at hp;simp only[Rel,Rd]at hp;obtain⟨A,cc,hp,_⟩:=hp;exact⟨_,hsl hp hty',bp⟩
  ·rename_i k off m hev
   simp only[zj]at hn;subst hn;rw[hev]at hp;simp only[Rel]at hp;obtain⟨R,hR,⟨hp,rfl,_⟩|⟨cc,cur,T,hp,_⟩⟩:=hp
   ·exact⟨_,hsl hp hty',bp⟩
   ·exact⟨_,hsl hp hty',bp⟩
  ·rename_i m hev
   simp only[zj]at hn;subst hn;rw[hev]at hp;simp only[Rel]at hp;obtain⟨A,cc,hp⟩:=hp;exact⟨_,hsl hp hty',bp⟩
  ·rename_i k j hev
   split at hn
   ·rename_i R hR
    split at hn
    ·rename_i m l hc
     simp only[zj]at hn;subst hn;rw[hev]at hp;simp only[Rel]at hp;obtain⟨R',x1,cur,T,f,hR',hx1,hh,hcell⟩:=hp;have:=hsub _ _ hR';rw[hR]at this;obtain rfl:R=R':=by simpa using this
     rcases hS.root k R hR' with e0|⟨cur',T',hh',hg,hl,hcells⟩
     ·simp [e0]at hc
     obtain⟨v,hv,hrel⟩:=hcells j _ hc
     rw[hh]at hh';simp at hh';obtain⟨rfl,_,_⟩:=hh';rw[hv]at hcell;simp at hcell;subst hcell;simp only[CRel,Tree]at hrel;obtain⟨A,cc,e,_⟩:=hrel;exact⟨_,hsl e hty',bp⟩
    ·cases hn
   ·cases hn
  ·cases hn
 ·exact h.elim
theorem M0(c:Call)(x:Operand)(t:TypeId)(ho:o.op=.call c)(hcal:c.callee=.builtin .len)(hargs:c.args.toList=[x])(hat:c.argTypes.toList=[t]){x':O}(hx:cO x=some x')(he:P.underlying t=some .string)(h:gI P s ev k0 (.lens x') K):Sound P s ev k0 o K:=by
 simp only[gI]at h;split at h
 ·rename_i b hev
  refine bD h fun γ φ τ w ρ hS hsub hr=> ?_
  have hp:=hr x x' hx (by simp [ho,Op.operands,Call.operands,hcal,hargs]);have ha:c.args= #[x]:=by rw[← Array.toArray_toList (xs:=c.args),hargs]
  have ht:c.argTypes= #[t]:=by rw[← Array.toArray_toList (xs:=c.argTypes),hat]
  rw[hev]at hp;simp only[Rel,Rd]at hp;exact⟨.int .i64 b.size,by simp [execOp,ho,resolve,hcal,ha,ht,invoke,builtin,Builtin.len_,run_underlying he,hp,goInt],bp⟩
 ·exact h.elim
theorem Lc(m:Bool)(c:Call)(x y:Operand)(ho:o.op=.call c)(hcal:c.callee=.builtin (if m then .max else .min))(hargs:c.args.toList=[x,y]){x' y':O}(hx:cO x=some x')(hy:cO y=some y')(h:gI P s ev k0 (.mnx m x' y') K):Sound P s ev k0 o K:=by
 simp only[gI]at h;split at h
 ·rename_i a b hea heb
  refine bD h fun γ φ τ w ρ hS hsub hr=> ?_
  have h1:=hr x x' hx (by simp [ho,Op.operands,Call.operands,hcal,hargs]);have h2:=hr y y' hy (by simp [ho,Op.operands,Call.operands,hcal,hargs]);rw[hea]at h1;rw[heb]at h2;have ha:c.args= #[x,y]:=by rw[← Array.toArray_toList (xs:=c.args),hargs]
  cases m
  ·exact⟨.int .i64 (if b<a then b else a),by simp [execOp,ho,resolve,hcal,ha,invoke,builtin,Builtin.min_,Builtin.min2,bX h1,bX h2],by simp [Rel,Rd]⟩
  ·exact⟨.int .i64 (if a<b then b else a),by simp [execOp,ho,resolve,hcal,ha,invoke,builtin,Builtin.max_,Builtin.max2,bX h1,bX h2],by simp [Rel,Rd]⟩
 ·exact h.elim
end
end Go.Lift
namespace Go.Lift
open Go.RowKit
section
variable {w : World} {γ γc : Labels} {φ : Nat → Nat} {s τ : St}
mutual
theorem Tree.rd{k:Nat}(hb:∀b p,γ b=.r k p→b<w.heap.size∧γc b=.im):∀(p:List Nat) (x:D) (v:Value),Tree w γ k p x v→Rd w (Im w γc) x v
 |_,.int _,_,h=>by simpa only[Tree,Rd]using h
 |_,.bool _,_,h=>by simpa only[Tree,Rd]using h
 |_,.str _,_,h=>by simpa only[Tree,Rd]using h
 |_,.byte _,_,h=>by simpa only[Tree,Rd]using h
 |p,.sl n l,v,h=>by
  simp only[Tree,Rd]at h ⊢;obtain⟨A,c,e,hc,h⟩:=h;refine⟨A,c,e,hc, ?_⟩;rcases h with ⟨_,h1,_,h2⟩|⟨b,cur,T,rfl,hg,hh,hl⟩
  ·exact .inl ⟨h1,h2⟩
  ·exact .inr ⟨b,0,rfl,hb b p hg,TreeL.rd hb p l 0 cur.toList b 0 (fun j v hv=>eZ hh (by simpa using hv)) hl⟩
theorem TreeL.rd{k:Nat}(hb:∀b p,γ b=.r k p→b<w.heap.size∧γc b=.im):∀(p:List Nat) (l:List D) (j:Nat) (vs:List Value) (b o:Nat),(∀(i:Nat) (v:Value),vs[i]? =some v→w.cell? ⟨b,o+i,none⟩=some v)→
  TreeL w γ k p j l vs→RdL w (Im w γc) l b o
 |_,[],_,_,_,_,_,_=>by simp only[RdL]
 |p,x :: l,j,vs,b,o,hv,h=>by
  simp only[TreeL,RdL]at h ⊢;obtain⟨v,vs',rfl,hx,hl⟩:=h;exact⟨⟨v,by simpa using hv 0 v (by simp),Tree.rd hb _ x v hx⟩,TreeL.rd hb p l (j+1) vs' b (o+1) (fun i u hu=>by rw[show o+1+i=o+(i+1)by omega];exact hv (i+1) u (by simpa using hu)) hl⟩
end
theorem ni:∀{l:List AV} {m:List D},cB l=some m→m.length=l.length∧∀(i:Nat) (x:D),m[i]? =some x→∃av,l[i]? =some av∧tt av=some x
 | [],m,h=>by
  simp only[cB,zj]at h;subst h
  simp
 |y :: l,m,h=>by
  simp only[cB]at h;split at h
  ·rename_i z m' hz hm'
   simp only[zj]at h;subst h;obtain⟨h1,h2⟩:=ni hm';refine⟨by simp [h1],fun i x hx=> ?_⟩;cases i with
   |zero=>simp at hx;subst hx;exact⟨y,by simp,hz⟩
   |succ i=>exact h2 i x (by simpa using hx)
  ·cases h
theorem tq(him:∀b,Im w γ b→Im w γc b){k j:Nat}(hb:∀b p,γ b=.r k p→b<w.heap.size∧γc b=.im){av:AV}{x:D}{v:Value}(h:tt av=some x)(hr:CRel w γ φ τ k j av v):Rd w (Im w γc) x v:=by
 unfold tt at h;split at h
 ·simp only[zj]at h
  subst h;simp only[CRel,Rel]at hr;exact Rd.mono (fun b hb=>⟨him b hb,rfl⟩) _ _ hr
 ·simp only[zj]at h
  subst h;exact Tree.rd hb _ _ _ hr
 ·simp only[zj]at h
  subst h;simp only[CRel,Rel]at hr;subst hr;simp only[Rd];exact⟨none,0,rfl,Nat.le_refl _,.inl ⟨trivial,trivial⟩⟩
 ·cases h
def labC(all:Bool)(γ:Labels):Labels:=fun b=>match γ b with
 | .im=>.im
 | .off=>.off
 | .r _ _=>if all then .im else .off
theorem w5{all:Bool}{b:Nat}(h:Im w γ b):Im w (labC all γ) b:=⟨h.1,by simp [labC,h.2]⟩
theorem Dp{all:Bool}{γ:Labels}(b k:Nat)(p:List Nat):labC all γ b≠ .r k p:=by
 unfold labC;cases γ b<;>cases all<;>simp
theorem xJ(hS:Sim γ φ τ w)(hsub:∀k R,τ k=some R→s k=some R){all:Bool}{av:AV}{x:D}{v:Value}(h:exp1 s av=some x)(hr:Rel w γ φ τ av v)(hall:all=true∨plain av=true):Rd w (Im w (labC all γ)) x v:=by
 have hbnd:all=true→∀k b p,γ b=.r k p→b<w.heap.size∧labC all γ b=.im:=fun ha k b p hg=>⟨hS.bound b k p hg,by simp [labC,hg,ha]⟩
 unfold exp1 at h;split at h
 ·simp only[zj]at h
  subst h;simp only[Rel]at hr;exact Rd.mono (fun b hb=>⟨w5 hb,rfl⟩) _ _ hr
 ·simp only[zj]at h
  subst h;rw[dX hr];simp only[Rd];exact⟨none,0,rfl,Nat.le_refl _,.inl ⟨trivial,trivial⟩⟩
 ·rename_i k off n
  have ha:all=true:=hall.resolve_right (by simp [plain]);split at h
  ·rename_i R hR
   simp only[zm]at h;obtain⟨l,hl,rfl⟩:=h;simp only[Rel]at hr;obtain⟨R',hR',hr⟩:=hr;have:=hsub _ _ hR';rw[hR]at this;obtain rfl:R=R':=by simpa using this
   obtain⟨hlen,hget⟩:=ni hl;simp only[Rd];rcases hr with ⟨rfl,rfl,rfl⟩|⟨c,cur,T,rfl,hn,hg,hh,_⟩
   ·refine⟨none,0,rfl,Nat.le_refl _,.inl ⟨rfl, ?_⟩⟩
    exact List.eq_nil_of_length_eq_zero (by rw[hlen];simp)
   ·refine⟨_,c,rfl,hn,.inr ⟨φ k,off,rfl,hbnd ha k _ _ hg,RdL.of_get fun i x hx=> ?_⟩⟩
    obtain⟨av,hav,hcd⟩:=hget i x hx;simp only[List.getElem?_take,List.getElem?_drop]at hav;split at hav
    ·rcases hS.root k R hR' with h0|⟨cur',T',hh',hg',hl',hcells⟩
     ·simp [h0]at hav
     obtain⟨u,hu,hcr⟩:=hcells _ _ hav
     exact⟨u,eZ hh' hu,tq (fun b hb=>w5 hb) (hbnd ha k) hcd hcr⟩
    ·cases hav
  ·cases h
 ·rename_i k j
  have ha:all=true:=hall.resolve_right (by simp [plain]);split at h
  ·rename_i R hR
   split at h
   ·rename_i y hy
    simp only[zj]at h;subst h;simp only[Rel]at hr;obtain⟨R',x1,cur,T,f,hR',hx1,hh,hcell⟩:=hr;have:=hsub _ _ hR';rw[hR]at this;obtain rfl:R=R':=by simpa using this
    rcases hS.root k R hR' with e0|⟨cur',T',hh',hg,hl,hcells⟩
    ·simp [e0]at hy
    obtain⟨u,hu,hcr⟩:=hcells j _ hy
    rw[hh]at hh';simp at hh';obtain⟨rfl,_,_⟩:=hh';rw[hu]at hcell;simp at hcell;subst hcell;exact Tree.rd (hbnd ha k) _ _ _ hcr
   ·cases h
  ·cases h
 ·cases h
theorem CJ(hS:Sim γ φ τ w)(hsub:∀k R,τ k=some R→s k=some R){all:Bool}{φc:Nat→Nat}{sc:St}:∀{l m:List AV} {vs:List Value},expC s l=some m→RelL w γ φ τ l vs→(all=true∨dK l=true)→RelL w (labC all γ) φc sc m vs
 | [],m,vs,h,hr,_=>by
  simp only[expC,zj]at h;subst h;simpa only[RelL]using hr
 |x :: l,m,vs,h,hr,hall=>by
  simp only[expC]at h;split at h
  ·rename_i y m' hy hm'
   simp only[zj]at h;subst h;simp only[RelL]at hr ⊢;obtain⟨v,vs',rfl,hx,hl⟩:=hr;simp only[dK,Bool.and_eq_true]at hall;exact⟨v,vs',rfl,by simp only[Rel];exact xJ hS hsub hy hx (hall.imp id (·.1)),CJ hS hsub hm' hl (hall.imp id (·.2))⟩
  ·cases h
theorem xX:∀{cells:List AV} {l:List D},d8 s cells=some l→l.length=cells.length∧∀(i:Nat) (x:D),l[i]? =some x→∃av,cells[i]? =some av∧((∃y,av=.tr y∧y=x)∨((∀y,av≠ .tr y)∧exp1 s av=some x))
 | [],l,h=>by
  simp only[d8,zj]at h;subst h;exact⟨rfl,fun i x hx=>by simp at hx⟩
 |y :: cells,l,h=>by
  simp only[d8]at h;split at h
  ·rename_i z m hz hm
   simp only[zj]at h;subst h;obtain⟨h1,h2⟩:=xX hm;refine⟨by simp [h1],fun i x hx=> ?_⟩;cases i with
   |zero=>
    simp at hx;subst hx;refine⟨y,by simp, ?_⟩;unfold xZ at hz;split at hz
    ·simp only[zj]at hz
     exact .inl ⟨_,rfl,hz⟩
    ·rename_i hn
     exact .inr ⟨hn,hz⟩
   |succ i=>exact h2 i x (by simpa using hx)
  ·cases h
theorem IF(hS:Sim γ φ τ w)(hsub:∀k R,τ k=some R→s k=some R){all:Bool}{φc:Nat→Nat}{sc:St}{x y:AV}{v:Value}(h:expA s x=some y)(hr:Rel w γ φ τ x v)(hall:all=true∨plain x=true):Rel w (labC all γ) φc sc y v:=by
 unfold expA at h;split at h
 ·simp only[zm]at h
  obtain⟨m,hm,rfl⟩:=h;simp only[Rel]at hr ⊢;obtain⟨vs,rfl,hl⟩:=hr;simp only[plain]at hall;exact⟨vs,rfl,CJ hS hsub hm hl hall⟩
 ·rename_i k off
  have ha:all=true:=hall.resolve_right (by simp [plain]);split at h
  ·rename_i R hR
   split at h
   ·rename_i l0 hl0
    split at h
    ·cases h
    rename_i hne
    simp only[zj]at h;subst h;simp only[Rel]at hr ⊢;obtain⟨R',hR',rfl⟩:=hr;have:=hsub _ _ hR';rw[hR]at this;obtain rfl:R=R':=by simpa using this
    obtain⟨hlen,hget⟩:=xX hl0;rcases hS.root k R hR' with h0|⟨cur',T',hh',hg',hl',hcells⟩
    ·rw[h0]at hlen
     exact absurd (by simp [List.eq_nil_of_length_eq_zero hlen]) hne
    refine⟨φ k,0,by rw[Nat.zero_add],⟨hS.bound _ _ _ hg',by simp [labC,hg',ha]⟩,RdL.of_get fun i x hx=> ?_⟩;obtain⟨av,hav,hcd⟩:=hget i x hx;obtain⟨u,hu,hcr⟩:=hcells _ _ hav;refine⟨u,by rw[Nat.zero_add];exact eZ hh' hu, ?_⟩;rcases hcd with ⟨y,rfl,rfl⟩|⟨hn,hx1⟩
    ·exact Tree.rd (fun b p hg=>⟨hS.bound b k p hg,by simp [labC,hg,ha]⟩) _ _ _ hcr
    ·refine xJ hS hsub hx1 ?_ (.inl ha)
     unfold CRel at hcr;split at hcr
     ·exact absurd rfl (hn _)
     ·exact hcr
   ·cases h
  ·cases h
 ·rename_i l off
  simp only[zj]at h;subst h;simp only[Rel]at hr ⊢;obtain⟨b,o,rfl,hb,hl⟩:=hr;exact⟨b,o,rfl,w5 hb,RdL.mono (fun b hb=>⟨w5 hb,rfl⟩) _ _ _ hb hl⟩
 ·simp only[zm]at h
  obtain⟨m,hm,rfl⟩:=h;simp only[Rel];exact xJ hS hsub hm hr hall
theorem oT(hS:Sim γ φ τ w)(hsub:∀k R,τ k=some R→s k=some R){all:Bool}{φc:Nat→Nat}{sc:St}:∀{l m:List AV} {vs:List Value},expL s l=some m→RelL w γ φ τ l vs→(all=true∨dK l=true)→RelL w (labC all γ) φc sc m vs
 | [],m,vs,h,hr,_=>by
  simp only[expL,zj]at h;subst h;simpa only[RelL]using hr
 |x :: l,m,vs,h,hr,hall=>by
  simp only[expL]at h;split at h
  ·rename_i y m' hy hm'
   simp only[zj]at h;subst h;simp only[RelL]at hr ⊢;obtain⟨v,vs',rfl,hx,hl⟩:=hr;simp only[dK,Bool.and_eq_true]at hall;exact⟨v,vs',rfl,IF hS hsub hy hx (hall.imp id (·.1)),oT hS hsub hm' hl (hall.imp id (·.2))⟩
  ·cases h
end
structure Emb(k0:Nat)(γ1:Labels)(φ1:Nat→Nat)(s1:St)(γ':Labels)(φ':Nat→Nat)(s':St):Prop where
 lab:∀b k p,γ1 b=.r k p→γ' b=.r (k+k0) p
 go:∀k R,s1 k=some R→φ' (k+k0)=φ1 k∧s' (k+k0)=some { R with cells:=rnL (sh k0) R.cells }
section
variable {w : World} {γ1 γ' : Labels} {φ1 φ' : Nat → Nat} {s1 s' : St} {k0 : Nat}
mutual
theorem Rel.emb(hE:Emb k0 γ1 φ1 s1 γ' φ' s'):∀(av:AV) (v:Value),((∀b,Im w γ1 b→Im w γ' b)∨scal av=true)→Rel w γ1 φ1 s1 av v→Rel w γ' φ' s' (Lift.rn (sh k0) av) v
 | .any,_,_,_=>by simp only[Lift.rn,Rel]
 | .und,_,_,h=>by simpa only[Lift.rn,Rel]using h
 | .nil,_,_,h=>by simpa only[Lift.rn,Rel]using h
 | .d x,v,hI,h=>by
  simp only[Lift.rn,Rel]at h ⊢;rcases hI with hI|hI
  ·exact Rd.mono (fun b hb=>⟨hI b hb,rfl⟩) x v h
  ·cases x with
   |sl n l=>simp only[scal,Bool.false_eq_true]at hI
   |_=>simpa only[Rd]using h
 | .own k off n,v,_,h=>by
  simp only[Lift.rn,sh,Rel]at h ⊢;obtain⟨R,hR,h⟩:=h;obtain⟨hφ,hR'⟩:=hE.go k R hR;refine⟨_,hR', ?_⟩;rcases h with h|⟨c,cur,T,hv,hn,hl,hh,hc⟩
  ·exact .inl h
  ·exact .inr ⟨c,cur,T,by rw[hφ];exact hv,hn,by rw[hφ];exact hE.lab _ _ _ hl,by rw[hφ];exact hh,hc⟩
 | .sub k j,v,_,h=>by
  simp only[Lift.rn,sh,Rel]at h ⊢;obtain⟨R,x,cur,T,f,hR,hx,hh,hv⟩:=h;obtain⟨hφ,hR'⟩:=hE.go k R hR;exact⟨_,x,cur,T,f,hR',by simp [aR,hx,Lift.rn],by rw[hφ];exact hh,hv⟩
 | .ptr k off,v,_,h=>by
  simp only[Lift.rn,sh,Rel]at h ⊢;obtain⟨R,hR,hv⟩:=h;obtain⟨hφ,hR'⟩:=hE.go k R hR;exact⟨_,hR',by rw[hφ];exact hv⟩
 | .sptr k j off,v,_,h=>by
  simp only[Lift.rn,sh,Rel]at h ⊢;obtain⟨R,x,cur,T,f,b,n,c,hR,hx,hh,hv,e⟩:=h;obtain⟨hφ,hR'⟩:=hE.go k R hR;exact⟨_,x,cur,T,f,b,n,c,hR',by simp [aR,hx,Lift.rn],by rw[hφ];exact hh,hv,e⟩
 | .rptr l off,v,hI,h=>by
  simp only[Lift.rn,Rel]at h ⊢;rcases hI with hI|hI
  ·obtain⟨b,o,e,hb,hl⟩:=h
   exact⟨b,o,e,hI b hb,RdL.mono (fun b hb=>⟨hI b hb,rfl⟩) l b o hb hl⟩
  ·simp [scal]at hI
 | .tr x,_,_,h=>by simp only[Rel]at h
 | .lv n,v,_,h=>by simpa only[Lift.rn,Rel]using h
 | .agg l,v,hI,h=>by
  simp only[Lift.rn,Rel]at h ⊢;obtain⟨vs,e,hl⟩:=h;exact⟨vs,e,RelL.emb hE l _ (hI.imp id (by simp [scal])) hl⟩
 | .tup l,v,hI,h=>by
  simp only[Lift.rn,Rel]at h ⊢;obtain⟨vs,e,hl⟩:=h;exact⟨vs,e,RelL.emb hE l _ (hI.imp id (by simp [scal])) hl⟩
 | .clo f l,v,hI,h=>by
  simp only[Lift.rn,Rel]at h ⊢;obtain⟨vs,e,hl⟩:=h;exact⟨vs,e,RelL.emb hE l _ (hI.imp id (by simp [scal])) hl⟩
termination_by structural av=>av
theorem RelL.emb(hE:Emb k0 γ1 φ1 s1 γ' φ' s'):∀(l:List AV) (vs:List Value),((∀b,Im w γ1 b→Im w γ' b)∨i8 l=true)→RelL w γ1 φ1 s1 l vs→RelL w γ' φ' s' (rnL (sh k0) l) vs
 | [],_,_,h=>by simpa only[rnL,RelL]using h
 |x :: l,vs,hI,h=>by
  simp only[rnL,RelL]at h ⊢;obtain⟨v,vs',e,hx,hl⟩:=h;simp only[i8,Bool.and_eq_true]at hI;exact⟨v,vs',e,Rel.emb hE x v (hI.imp id (·.1)) hx,RelL.emb hE l vs' (hI.imp id (·.2)) hl⟩
termination_by structural l=>l
end
mutual
theorem Tree.emb(hE:Emb k0 γ1 φ1 s1 γ' φ' s'){k:Nat}:∀(p:List Nat) (x:D) (v:Value),Tree w γ1 k p x v→Tree w γ' (k+k0) p x v
 |_,.int _,_,hr=>by simpa only[Tree]using hr
 |_,.bool _,_,hr=>by simpa only[Tree]using hr
 |_,.str _,_,hr=>by simpa only[Tree]using hr
 |_,.byte _,_,hr=>by simpa only[Tree]using hr
 |p,.sl n l,v,hr=>by
  simp only[Tree]at hr ⊢;obtain⟨A,c,e,hc,hr⟩:=hr;refine⟨A,c,e,hc, ?_⟩;rcases hr with hr|⟨b,cur,T,eA,hg,hh,hl⟩
  ·exact .inl hr
  ·exact .inr ⟨b,cur,T,eA,hE.lab _ _ _ hg,hh,TreeL.emb hE p l _ _ hl⟩
theorem TreeL.emb(hE:Emb k0 γ1 φ1 s1 γ' φ' s'){k:Nat}:∀(p:List Nat) (l:List D) (j:Nat) (vs:List Value),TreeL w γ1 k p j l vs→TreeL w γ' (k+k0) p j l vs
 |_,[],_,_,_=>by simp only[TreeL]
 |p,x :: l,j,vs,hr=>by
  simp only[TreeL]at hr ⊢;obtain⟨v,vs',e,hx,hl⟩:=hr;exact⟨v,vs',e,Tree.emb hE _ x v hx,TreeL.emb hE p l _ _ hl⟩
end
theorem CRel.emb(hE:Emb k0 γ1 φ1 s1 γ' φ' s'){k j:Nat}{av:AV}{v:Value}(hI:(∀b,Im w γ1 b→Im w γ' b)∨scal av=true)(h:CRel w γ1 φ1 s1 k j av v):CRel w γ' φ' s' (k+k0) j (Lift.rn (sh k0) av) v:=by
 cases av with
 |tr x=>
  simp only[CRel,Lift.rn]at h ⊢;exact Tree.emb hE _ x v h
 |_=>
  have:=Rel.emb hE _ v hI (show Rel w γ1 φ1 s1 _ v from h);simp only[Lift.rn,sh]at this ⊢;exact this
end
end Go.Lift
namespace Go.Lift
open Go.RowKit
theorem yI:∀{l:List AV} {i:Nat} {x:AV},i8 l=true→l[i]? =some x→scal x=true
 | [],_,_,_,h=>by simp at h
 |y :: l,0,x,hs,h=>by
  simp only[i8,Bool.and_eq_true]at hs;simp at h;exact h ▸ hs.1
 |y :: l,i+1,x,hs,h=>by
  simp only[i8,Bool.and_eq_true]at hs;exact yI hs.2 (by simpa using h)
theorem tX:∀{σ:Sto} {k:Nat} {R:Root},kx σ=true→at_ σ k=some R→i8 R.cells=true
 | [],_,_,_,h=>by simp [at_]at h
 |some R0 :: σ,0,R,hs,h=>by
  simp only[kx,Bool.and_eq_true]at hs;simp [at_]at h;exact h ▸ hs.1
 |none :: σ,0,R,hs,h=>by simp [at_]at h
 |some R0 :: σ,k+1,R,hs,h=>by
  simp only[kx,Bool.and_eq_true]at hs;exact tX (k:=k) hs.2 (by simpa [at_]using h)
 |none :: σ,k+1,R,hs,h=>by
  simp only[kx]at hs;exact tX (k:=k) hs (by simpa [at_]using h)
theorem BX(τ:St)(k0:Nat)(σ:Sto)(k:Nat)(h:k0≤k∧k<k0+(shS k0 σ).length):over τ k0 (shS k0 σ) k=(at_ σ (k-k0)).map fun R=>{ R with cells:=rnL (sh k0) R.cells }:=by
 unfold over;rw[if_pos h];simp only[shS,at_,List.getElem?_map];cases σ[k-k0]? with
 |none=>rfl
 |some x=>cases x<;>rfl
theorem az:∀{l:List Nat} {k j:Nat},aP k l=some j→l[j]? =some k
 | [],_,_,h=>by simp [aP]at h
 |x :: l,k,j,h=>by
  simp only[aP]at h;split at h
  ·rename_i e
   simp only[zj]at h;subst h;simp [e]
  ·simp only[zm]at h
   obtain⟨i,hi,rfl⟩:=h;simpa using az hi
theorem cz:∀{l:List Nat} {k j:Nat},l.Nodup→l[j]? =some k→aP k l=some j
 | [],_,_,_,h=>by simp at h
 |x :: l,k,0,_,h=>by simp at h;simp [aP,h]
 |x :: l,k,j+1,hn,h=>by
  have h':l[j]? =some k:=by simpa using h
  simp only[List.nodup_cons]at hn;have hne:x≠k:=fun e=>hn.1 (e ▸ List.mem_of_getElem? h')
  simp only[aP,if_neg hne,cz hn.2 h',Option.map_some]
section
variable {w : World} {γ : Labels} {φ : Nat → Nat} {s : St}
theorem G4{γ':Labels}{φ':Nat→Nat}{s':St}{w':World}{x:AV}{v:Value}(h:kK x=true)(hr:Rel w γ φ s x v):Rel w' γ' φ' s' x v:=by
 cases x with
 |any=>simp [Rel]
 |nil=>simpa only[Rel]using hr
 |d y=>
  cases y with
  |sl n l=>simp [kK]at h
  |_=>simpa only[Rel,Rd]using hr
 |_=>simp [kK]at h
theorem n6{γ':Labels}{φ':Nat→Nat}{s':St}{w':World}{k j k' j':Nat}{x:AV}{v:Value}(h:kK x=true)(hr:CRel w γ φ s k j x v):CRel w' γ' φ' s' k' j' x v:=by
 have hr':Rel w γ φ s x v:=by
  cases x with
  |tr d=>simp [kK]at h
  |_=>exact hr
 exact CRel.of_rel (G4 h hr')
def labW(M:List Nat)(γ:Labels):Labels:=fun b=>match γ b with
 | .r k p=>match aP k M with
  |some i=>.r i p
  |none=>.im
 |l=>l
theorem AG{M:List Nat}{b:Nat}(h:Im w γ b):Im w (labW M γ) b:=⟨h.1,by simp [labW,h.2]⟩
theorem qj{τ:St}(hS:Sim γ φ τ w){M:List Nat}{av:AV}{x:D}{v:Value}(h:exp1 τ av=some x)(hr:Rel w γ φ τ av v)(hno:∀k j,av≠ .sub k j)(hk:∀k o n,av=.own k o n→aP k M=none):Rd w (Im w (labW M γ)) x v:=by
 unfold exp1 at h;split at h
 ·simp only[zj]at h
  subst h;simp only[Rel]at hr;exact Rd.mono (fun b hb=>⟨AG hb,rfl⟩) _ _ hr
 ·simp only[zj]at h
  subst h;rw[dX hr];simp only[Rd];exact⟨none,0,rfl,Nat.le_refl _,.inl ⟨trivial,trivial⟩⟩
 ·rename_i k off n
  have hkM:=hk k off n rfl;have hbnd:∀b p,γ b=.r k p→b<w.heap.size∧labW M γ b=.im:=fun b p hg=>⟨hS.bound b k p hg,by simp [labW,hg,hkM]⟩
  split at h
  ·rename_i R hR
   simp only[zm]at h;obtain⟨l,hl,rfl⟩:=h;simp only[Rel]at hr;obtain⟨R',hR',hr⟩:=hr;rw[hR]at hR';obtain rfl:R=R':=by simpa using hR'
   obtain⟨hlen,hget⟩:=ni hl;simp only[Rd];rcases hr with ⟨rfl,rfl,rfl⟩|⟨c,cur,T,rfl,hn,hg,hh,_⟩
   ·refine⟨none,0,rfl,Nat.le_refl _,.inl ⟨rfl, ?_⟩⟩
    exact List.eq_nil_of_length_eq_zero (by rw[hlen];simp)
   ·refine⟨_,c,rfl,hn,.inr ⟨φ k,off,rfl,hbnd _ _ hg,RdL.of_get fun i x hx=> ?_⟩⟩
    obtain⟨av,hav,hcd⟩:=hget i x hx;simp only[List.getElem?_take,List.getElem?_drop]at hav;split at hav
    ·rcases hS.root k R hR with h0|⟨cur',T',hh',hg',hl',hcells⟩
     ·simp [h0]at hav
     obtain⟨u,hu,hcr⟩:=hcells _ _ hav
     exact⟨u,eZ hh' hu,tq (fun b hb=>AG hb) hbnd hcd hcr⟩
    ·cases hav
  ·cases h
 ·exact absurd rfl (hno _ _)
 ·cases h
end
theorem Eb{w:World}{γ γ':Labels}{φ φ':Nat→Nat}{s s':St}{ρ:Nat→Option Nat}(hgo:∀k k' R,ρ k=some k'→s k=some R→φ' k'=φ k∧(∃R',s' k'=some R'∧R'.e=R.e∧(R'.g=true→R.g=true)∧∀(j:Nat) (x:D),R.cells[j]? =some (.tr x)→R'.cells[j]? =some (.tr x))∧(γ (φ k)=.r k []→γ' (φ k)=.r k' [])):
  ∀(av:AV) (v:Value),scal av=true→Rel w γ φ s av v→Rel w γ' φ' s' (Lift.rn ρ av) v:=by
 intro av;refine AV.rec (motive_1:=fun av=>∀(v:Value),scal av=true→Rel w γ φ s av v→Rel w γ' φ' s' (Lift.rn ρ av) v)
  (motive_2:=fun l=>∀(vs:List Value),i8 l=true→RelL w γ φ s l vs→RelL w γ' φ' s' (rnL ρ l) vs) ?_ ?_ ?_ ?_ ?_ ?_ ?_ ?_ ?_ ?_ ?_ ?_ ?_ ?_ ?_ ?_ av
 ·intro v _ _;simp only[Lift.rn,Rel]
 ·intro v _ h;simpa only[Lift.rn,Rel]using h
 ·intro v _ h;simpa only[Lift.rn,Rel]using h
 ·intro x v hs h
  simp only[Lift.rn,Rel]at h ⊢;cases x with
  |sl n l=>simp [scal]at hs
  |_=>simpa only[Rd]using h
 ·intro k off n v _ h
  simp only[Lift.rn];split
  ·rename_i k' hk
   simp only[Rel]at h ⊢;obtain⟨R,hR,h⟩:=h;obtain⟨hφ,⟨R',hR',he,hg,_⟩,hlab⟩:=hgo k k' R hk hR;refine⟨R',hR', ?_⟩;rcases h with h|⟨c,cur,T,hv,hn,hl,hh,hc⟩
   ·exact .inl h
   ·exact .inr ⟨c,cur,T,by rw[hφ];exact hv,hn,by rw[hφ];exact hlab hl,by rw[hφ];exact hh,fun h0=>by rw[he];exact hc (hg h0)⟩
  ·simp only[Rel]
 ·intro k j v _ h
  simp only[Lift.rn];split
  ·rename_i k' hk
   simp only[Rel]at h ⊢;obtain⟨R,x,cur,T,f,hR,hx,hh,hv⟩:=h;obtain⟨hφ,⟨R',hR',_,_,htr⟩,_⟩:=hgo k k' R hk hR;exact⟨R',x,cur,T,f,hR',htr j x hx,by rw[hφ];exact hh,hv⟩
  ·simp only[Rel]
 ·intro k off v _ h
  simp only[Lift.rn];split
  ·rename_i k' hk
   simp only[Rel]at h ⊢;obtain⟨R,hR,hv⟩:=h;obtain⟨hφ,⟨R',hR',_⟩,_⟩:=hgo k k' R hk hR;exact⟨R',hR',by rw[hφ];exact hv⟩
  ·simp only[Rel]
 ·intro k j off v _ h
  simp only[Lift.rn];split
  ·rename_i k' hk
   simp only[Rel]at h ⊢;obtain⟨R,x,cur,T,f,b,n,c,hR,hx,hh,hv,e⟩:=h;obtain⟨hφ,⟨R',hR',_,_,htr⟩,_⟩:=hgo k k' R hk hR;exact⟨R',x,cur,T,f,b,n,c,hR',htr j x hx,by rw[hφ];exact hh,hv,e⟩
  ·simp only[Rel]
 ·intro l off v hs _;simp [scal]at hs
 ·intro x v _ h;simp only[Rel]at h
 ·intro n v _ h;simpa only[Lift.rn,Rel]using h
 ·intro l ih v hs h
  simp only[Lift.rn,Rel]at h ⊢;obtain⟨vs,e,hl⟩:=h;exact⟨vs,e,ih vs.toList (by simpa [scal]using hs) hl⟩
 ·intro l ih v hs h
  simp only[Lift.rn,Rel]at h ⊢;obtain⟨vs,e,hl⟩:=h;exact⟨vs,e,ih vs.toList (by simpa [scal]using hs) hl⟩
 ·intro f l ih v hs h
  simp only[Lift.rn,Rel]at h ⊢;obtain⟨vs,e,hl⟩:=h;exact⟨vs,e,ih vs.toList (by simpa [scal]using hs) hl⟩
 ·intro vs _ h;simpa only[rnL,RelL]using h
 ·intro x l ihx ihl vs hs h
  simp only[rnL,RelL,i8,Bool.and_eq_true]at h hs ⊢;obtain⟨v,vs',e,hx,hl⟩:=h;exact⟨v,vs',e,ihx v hs.1 hx,ihl vs' hs.2 hl⟩
section
variable {w : World} {γ : Labels} {φ : Nat → Nat} {s τ : St}
theorem oc:∀{σ:Sto} {k:Nat} {x:Option Root},vwOk σ=true→σ[k]? =some x→∃R,x=some R∧R.g=false∧R.cells.all kK=true
 | [],_,_,_,h=>by simp at h
 |some R :: l,0,x,h,e=>by
  simp only[vwOk,Bool.and_eq_true,Bool.not_eq_true']at h;simp at e;exact⟨R,e.symm,h.1.1,h.1.2⟩
 |none :: l,_,x,h,_=>by simp [vwOk]at h
 |some R :: l,k+1,x,h,e=>by
  simp only[vwOk,Bool.and_eq_true]at h;exact oc h.2 (by simpa using e)
theorem zK(hsub:∀k R,τ k=some R→s k=some R){av:AV}{x:D}{v:Value}(hns:∀k j,av≠ .sub k j)(h:exp1 s av=some x)(hr:Rel w γ φ τ av v):exp1 τ av=some x:=by
 cases av with
 |own k off n=>
  simp only[Rel]at hr;obtain⟨R,hR,_⟩:=hr;simp only[exp1,hsub k R hR]at h;simp only[exp1,hR];exact h
 |sub k j=>exact absurd rfl (hns k j)
 |_=>exact h
theorem BJ(hS:Sim γ φ τ w)(hsub:∀k R,τ k=some R→s k=some R){M:List Nat}{σv:Sto}(hv:∀i k,M[i]? =some k→∃R,τ k=some R∧at_ σv i=some R∧R.g=false){x y:AV}{v:Value}(h:rw1 s M x=some y)(hr:Rel w γ φ τ x v):
  Rel w (labW M γ) (fun i=>φ (M.getD i 0)) (at_ σv) y v:=by
 unfold rw1 at h;split at h
 ·rename_i k o n
  split at h
  ·rename_i i hi
   simp only[zj]at h;subst h;have hMi:=az hi;have hgd:M.getD i 0=k:=by simp [zq,hMi]
   obtain⟨R0,h1,h2,h3⟩:=hv i k hMi;simp only[Rel]at hr ⊢;obtain⟨R,hR,hr⟩:=hr;rw[h1]at hR;obtain rfl:R0=R:=by simpa using hR
   refine⟨_,h2, ?_⟩;rcases hr with hr|⟨c,cur,T,hv,hn,hg,hh,_⟩
   ·exact .inl hr
   ·exact .inr ⟨c,cur,T,by rw[hgd];exact hv,hn,by show labW M γ (φ (M.getD i 0))=_;rw[hgd];simp [labW,hg,hi],by rw[hgd];exact hh,fun hg=>by rw[h3]at hg;cases hg⟩
  ·rename_i hi
   simp only[zm]at h;obtain⟨d,hd,rfl⟩:=h;simp only[Rel];exact qj hS (zK hsub (by simp) hd hr) hr (by simp) (fun k' o' n' e=>by injection e with e1;rw[← e1];exact hi)
 ·rename_i k o
  simp only[zm]at h;obtain⟨i,hi,rfl⟩:=h;have hMi:=az hi;have hgd:M.getD i 0=k:=by simp [zq,hMi]
  obtain⟨R0,h1,h2,h3⟩:=hv i k hMi;simp only[Rel]at hr ⊢;obtain⟨R,hR,hr⟩:=hr;exact⟨_,h2,by rw[hgd];exact hr⟩
 ·cases h
 ·rename_i hne _ hns
  simp only[zm]at h;obtain⟨d,hd,rfl⟩:=h;simp only[Rel];exact qj hS (zK hsub (fun k j e=>hns k j e) hd hr) hr (fun k j e=>hns k j e) (fun k o n e=>absurd e (hne k o n))
theorem BI(hS:Sim γ φ τ w)(hsub:∀k R,τ k=some R→s k=some R){M:List Nat}{σv:Sto}(hv:∀i k,M[i]? =some k→∃R,τ k=some R∧at_ σv i=some R∧R.g=false):∀{l m:List AV} {vs:List Value},rwC s M l=some m→RelL w γ φ τ l vs→RelL w (labW M γ) (fun i=>φ (M.getD i 0)) (at_ σv) m vs
 | [],m,vs,h,hr=>by
  simp only[rwC,zj]at h;subst h;simpa only[RelL]using hr
 |x :: l,m,vs,h,hr=>by
  simp only[rwC]at h;split at h
  ·rename_i y m' hy hm
   simp only[zj]at h;subst h;simp only[RelL]at hr ⊢;obtain⟨v,vs',rfl,hx,hl⟩:=hr;exact⟨v,vs',rfl,BJ hS hsub hv hy hx,BI hS hsub hv hm hl⟩
  ·cases h
theorem BH(hS:Sim γ φ τ w)(hsub:∀k R,τ k=some R→s k=some R){M:List Nat}{σv:Sto}(hv:∀i k,M[i]? =some k→∃R,τ k=some R∧at_ σv i=some R∧R.g=false):∀{l m:List AV} {vs:List Value},rwL s M l=some m→RelL w γ φ τ l vs→RelL w (labW M γ) (fun i=>φ (M.getD i 0)) (at_ σv) m vs
 | [],m,vs,h,hr=>by
  simp only[rwL,zj]at h;subst h;simpa only[RelL]using hr
 |x :: l,m,vs,h,hr=>by
  simp only[rwL]at h;split at h
  ·rename_i y m' hy hm
   simp only[zj]at h;subst h;simp only[RelL]at hr ⊢;obtain⟨v,vs',rfl,hx,hl⟩:=hr;refine⟨v,vs',rfl, ?_,BH hS hsub hv hm hl⟩;unfold rwA at hy;split at hy
   ·simp only[zm]at hy
    obtain⟨m2,hm2,rfl⟩:=hy;simp only[Rel]at hx ⊢;obtain⟨us,rfl,hus⟩:=hx;exact⟨us,rfl,BI hS hsub hv hm2 hus⟩
   ·exact BJ hS hsub hv hy hx
  ·cases h
theorem FV(w:World)(γ:Labels)(φ:Nat→Nat)(τ:St):(∀(av:AV) (v:Value),Rel w γ φ τ av v→∀k∈idsA av,∃R,τ k=some R)∧∀(l:List AV) (vs:List Value),RelL w γ φ τ l vs→∀k∈idsL l,∃R,τ k=some R:=by
 have h:∀(av:AV),(∀v,Rel w γ φ τ av v→∀k∈idsA av,∃R,τ k=some R):=by
  intro av;refine AV.rec (motive_1:=fun av=>∀v,Rel w γ φ τ av v→∀k∈idsA av,∃R,τ k=some R) (motive_2:=fun l=>∀vs,RelL w γ φ τ l vs→∀k∈idsL l,∃R,τ k=some R) ?_ ?_ ?_ ?_ ?_ ?_ ?_ ?_ ?_ ?_ ?_ ?_ ?_ ?_ ?_ ?_ av
  ·intro v _ k hk;simp [idsA]at hk
  ·intro v _ k hk;simp [idsA]at hk
  ·intro v _ k hk;simp [idsA]at hk
  ·intro x v _ k hk;simp [idsA]at hk
  ·intro k off n v hr k' hk
   simp only[idsA,List.mem_singleton]at hk;subst hk;simp only[Rel]at hr;exact⟨_,hr.choose_spec.1⟩
  ·intro k j v hr k' hk
   simp only[idsA,List.mem_singleton]at hk;subst hk;simp only[Rel]at hr;obtain⟨R,_,_,_,_,h,_⟩:=hr;exact⟨R,h⟩
  ·intro k off v hr k' hk
   simp only[idsA,List.mem_singleton]at hk;subst hk;simp only[Rel]at hr;obtain⟨R,h,_⟩:=hr;exact⟨R,h⟩
  ·intro k j off v hr k' hk
   simp only[idsA,List.mem_singleton]at hk;subst hk;simp only[Rel]at hr;obtain⟨R,_,_,_,_,_,_,_,h,_⟩:=hr;exact⟨R,h⟩
  ·intro l off v _ k hk;simp [idsA]at hk
  ·intro x v hr;simp only[Rel]at hr
  ·intro n v _ k hk;simp [idsA]at hk
  ·intro l ih v hr
   simp only[Rel]at hr;obtain⟨vs,_,hl⟩:=hr;exact fun k hk=>ih _ hl k (by simpa only[idsA]using hk)
  ·intro l ih v hr
   simp only[Rel]at hr;obtain⟨vs,_,hl⟩:=hr;exact fun k hk=>ih _ hl k (by simpa only[idsA]using hk)
  ·intro f l ih v hr
   simp only[Rel]at hr;obtain⟨vs,_,hl⟩:=hr;exact fun k hk=>ih _ hl k (by simpa only[idsA]using hk)
  ·intro vs _ k hk;simp [idsL]at hk
  ·intro x l ihx ihl vs hr k hk
   simp only[RelL]at hr;obtain⟨v,vs',_,hx,hl⟩:=hr;simp only[idsL,List.mem_append]at hk;rcases hk with hk|hk
   ·exact ihx v hx k hk
   ·exact ihl vs' hl k hk
 refine⟨h,fun l=> ?_⟩
 induction l with
 |nil=>intro vs _ k hk;simp [idsL]at hk
 |cons x l ih=>
  intro vs hr k hk;simp only[RelL]at hr;obtain⟨v,vs',_,hx,hl⟩:=hr;simp only[idsL,List.mem_append]at hk;rcases hk with hk|hk
  ·exact h x v hx k hk
  ·exact ih vs' hl k hk
theorem EZ{w1:World}{M:List Nat}{γ1:Labels}{φ1:Nat→Nat}{σv:Sto}{res:AV}{v:Value}{k0:Nat}(hS:Sim γ φ τ w)(hM:M.Nodup)(hlen:σv.length=M.length)(hok:vwOk σv=true)(hv:∀i k,M[i]? =some k→∃R,τ k=some R∧at_ σv i=some R∧R.g=false)
  (hK:Kst (labW M γ) w γ1 w1) (hstay:∀k R,at_ σv k=some R→R.g=false→φ1 k=φ (M.getD k 0)∧(labW M γ (φ (M.getD k 0))=.r k []→γ1 (φ (M.getD k 0))=.r k [])) (hS1:Sim γ1 φ1 (at_ σv) w1) (hres:Rel w1 γ1 φ1 (at_ σv) res v)
  (hsc:scal res=true):GPost γ φ τ w k0 (Lift.rn (fun i=>M[i]?) res) [] v w1:=by
 let ownB:Nat→Bool:=fun b=>match γ b with
  | .r k _=>(aP k M).isSome
  |_=>false
 let γ':Labels:=fun b=>if b<w.heap.size∧ownB b=false then γ b else (γ1 b).rn (fun i=>M[i]?)
 have hlabr:∀b,ownB b=false→∀i p,labW M γ b≠ .r i p:=by
  intro b hb i p h;simp only[ownB]at hb;unfold labW at h;cases hg:γ b with
  |r k q=>
   simp only[hg]at hb h;cases hp:aP k M with
   |none=>simp [hp]at h
   |some j=>simp [hp]at hb
  |_=>simp [hg]at h
 have hF1:∀b,b<w.heap.size→ownB b=false→w1.heap[b]? =w.heap[b]? ∧γ1 b=labW M γ b:=fun b hb ho=>hK.blk b hb (hlabr b ho)
 have hγo:∀b,b<w.heap.size→ownB b=false→γ' b=γ b:=fun b hb ho=>by simp only[γ'];rw[if_pos ⟨hb,ho⟩]
 have hγn:∀b i p,γ1 b=.r i p→γ' b=(Lab.r i p).rn (fun i=>M[i]?):=by
  intro b i p h;simp only[γ'];rw[if_neg,h]
  rintro⟨hb,ho⟩
  exact hlabr b ho i p ((hF1 b hb ho).2 ▸ h)
 have hoN:∀b k q,γ b=.r k q→aP k M=none→ownB b=false:=fun b k q h hp=>by simp [ownB,h,hp]
 have hat:∀i R,at_ σv i=some R→i<M.length:=fun i R h=>by
  by_cases hk:i<M.length
  ·exact hk
  ·simp [at_,List.getElem?_eq_none (show σv.length≤i by omega)]at h
 have hflat:∀i R,at_ σv i=some R→R.g=false∧R.cells.all kK=true:=fun i R h=>by
  have hi:=hat i R h;have hx:σv[i]? =some (some R):=by
   simp only[at_]at h;cases hs:σv[i]? with
   |none=>simp [hs]at h
   |some x=>rw[hs]at h;simp at h;rw[h]
  obtain⟨R',e,h1,h2⟩:=oc hok hx;obtain rfl:R=R':=by simpa using e
  exact⟨h1,h2⟩
 have hMst:∀i k R,M[i]? =some k→τ k=some R→at_ σv i=some R∧φ1 i=φ k∧(γ (φ k)=.r k []→γ1 (φ k)=.r i []):=by
  intro i k R hi hR;have hgd:M.getD i 0=k:=by simp [zq,hi]
  obtain⟨R0,h1,h2,h3⟩:=hv i k hi;rw[h1]at hR;obtain rfl:R0=R:=by simpa using hR
  have:=hstay i _ h2 h3;rw[hgd]at this;exact⟨h2,this.1,fun hl=>this.2 (by simp [labW,hl,cz hM hi])⟩
 have hKst:Kst γ w γ' w1:=⟨hK.os,hK.tape,hK.output,hK.size,fun b hb hn=>by
   have ho:ownB b=false:=by
    simp only[ownB]
   exact⟨(hF1 b hb ho).1,hγo b hb ho⟩,hK.shape⟩
 have hlabL:∀k R,τ k=some R→γ (φ k)=.r k []→γ' (φ k)=.r k []:=by
  intro k R hR hl;cases hp:aP k M with
  |none=>rw[hγo _ (hS.bound _ _ _ hl) (hoN _ _ _ hl hp)];exact hl
  |some i=>
   have hi:=az hp;rw[hγn _ _ _ ((hMst i k R hi hR).2.2 hl)];simp [Lab.rn,hi]
 have hL:Live w γ φ τ w1 γ' φ τ:=by
  intro k R hR;refine⟨rfl,R,hR,rfl,id,hlabL k R hR,fun j x hx=> ?_⟩;cases hp:aP k M with
  |some i=>
   have:=List.all_eq_true.1 (hflat i R (hMst i k R (az hp) hR).1).2 _ (List.mem_of_getElem? hx);simp [kK]at this
  |none=>
   refine⟨⟨x,hx⟩,fun c c' T f T' f' e e'=> ?_⟩;rcases hS.root k R hR with h0|⟨_,_,_,hl,_⟩
   ·simp [h0]at hx
   rw[(hF1 _ (hS.bound _ _ _ hl) (hoN _ _ _ hl hp)).1,e]at e'
   simp at e';rw[e'.1]
 refine⟨γ',φ,hKst, ?_⟩;rw[fo];refine⟨hL,⟨fun b k p hb=> ?_,fun k R hR=> ?_,hS.adm.mono hKst⟩, ?_⟩
 ·simp only[γ']at hb
  split at hb
  ·exact Nat.lt_of_lt_of_le (hS.bound b k p hb) hK.size
  ·cases hg:γ1 b with
   |r i q=>exact hS1.bound b i q hg
   |im=>simp [hg,Lab.rn]at hb
   |off=>simp [hg,Lab.rn]at hb
 ·cases hp:aP k M with
  |none=>
   rcases hS.root k R hR with h0|⟨cur,T,hh,hl,hsz,hcells⟩
   ·exact .inl h0
   have hbk:=hS.bound _ _ _ hl
   have hon:=hoN _ _ _ hl hp;refine .inr ⟨cur,T,by rw[(hF1 _ hbk hon).1];exact hh,by rw[hγo _ hbk hon];exact hl,hsz,fun j av hav=> ?_⟩;obtain⟨u,hu,hr⟩:=hcells j av hav;exact⟨u,hu,CRel.mono hKst hL (fun b q hb=>by rw[hγo b (hS.bound _ _ _ hb) (hoN _ _ _ hb hp)];exact hb) (fun b q _ hb=>(hF1 b (hS.bound _ _ _ hb) (hoN _ _ _ hb hp)).1) hr⟩
  |some i=>
   have hMi:=az hp;obtain⟨h1,h2,h3⟩:=hMst i k R hMi hR;rcases hS1.root i R h1 with h0|⟨cur,T,hh,hl1,hsz,hcells⟩
   ·exact .inl h0
   refine .inr ⟨cur,T,by rw[← h2];exact hh, ?_,hsz,fun j av hav=> ?_⟩
   ·rw[h2]at hl1
    rw[hγn _ _ _ hl1];simp [Lab.rn,hMi]
   ·obtain⟨u,hu,hr⟩:=hcells j av hav
    exact⟨u,hu,n6 (List.all_eq_true.1 (hflat i R h1).2 av (List.mem_of_getElem? hav)) hr⟩
 ·refine Eb (fun i k' R hi hR=> ?_) res v hsc hres
  obtain⟨R0,h1,h2,h3⟩:=hv i k' hi;rw[h2]at hR;obtain rfl:R0=R:=by simpa using hR
  obtain⟨_,h4,_⟩:=hMst i k' R0 hi h1;refine⟨h4.symm,⟨R0,h1,rfl,id,fun j x hx=>hx⟩,fun hl=> ?_⟩;rw[hγn _ _ _ hl];simp [Lab.rn,hi]
end
section
variable {P : Program} {s : St} {ev : O → AV} {k0 : Nat} {K : AV → Sto → Prop} {o : Oper}
def labM(γ:Labels)(B k0:Nat)(γ1:Labels):Labels:=fun b=>if b<B then γ b else (γ1 b).rn (sh k0)
theorem qk{γ:Labels}{φ:Nat→Nat}{τ:St}{w w1:World}{γ1:Labels}{φ1:Nat→Nat}{all:Bool}{σ1:Sto}{res:AV}{v:Value}(hS:Sim γ φ τ w)(hdead:∀j,j<(shS k0 σ1).length→τ (k0+j)=none)
  (hK:Kst (labC all γ) w γ1 w1) (hS1:Sim γ1 φ1 (at_ σ1) w1) (hres:Rel w1 γ1 φ1 (at_ σ1) res v) (hp:all=false∨(scal res&&kx σ1)=true):
  GPost γ φ τ w k0 (rn (sh k0) res) (shS k0 σ1) v w1:=by
 have hnr:∀b k p,labC all γ b≠ .r k p:=Dp;have hold:∀b,b<w.heap.size→w1.heap[b]? =w.heap[b]? ∧γ1 b=labC all γ b:=fun b hb=>hK.blk b hb (fun k p=>hnr b k p)
 let γ':=labM γ w.heap.size k0 γ1
 let φ':Nat→Nat:=fun k=>if k0≤k∧k<k0+(shS k0 σ1).length then φ1 (k-k0) else φ k
 have hγold:∀b,b<w.heap.size→γ' b=γ b:=fun b hb=>by simp [γ',labM,hb]
 have hKst:Kst γ w γ' w1:=⟨hK.os,hK.tape,hK.output,hK.size,fun b hb _=>⟨(hold b hb).1,hγold b hb⟩,hK.shape⟩;have hlen:(shS k0 σ1).length=σ1.length:=by simp [shS]
 have hnew:∀b k p,γ1 b=.r k p→γ' b=.r (k+k0) p:=by
  intro b k p hb;have hge:¬ b<w.heap.size:=fun hlt=>by
   have:=(hold b hlt).2;rw[hb]at this;exact hnr b k p this.symm
  simp [γ',labM,hge,hb,Lab.rn,sh]
 have hat:∀k R,at_ σ1 k=some R→k<σ1.length:=fun k R h=>by
  by_cases hk:k<σ1.length
  ·exact hk
  ·simp [at_,List.getElem?_eq_none (Nat.le_of_not_lt hk)]at h
 have hE:Emb k0 γ1 φ1 (at_ σ1) γ' φ' (over τ k0 (shS k0 σ1)):=by
  refine⟨hnew,fun k R hR=> ?_⟩;have hk:=hat k R hR;have hin:k0≤k+k0∧k+k0<k0+(shS k0 σ1).length:=by omega
  refine⟨by simp [φ',hlen,show k+k0<k0+σ1.length by omega], ?_⟩;rw[BX _ _ _ _ hin,show k+k0-k0=k by omega,hR]
  rfl
 have hL:Live w γ φ τ w1 γ' φ' (over τ k0 (shS k0 σ1)):=by
  intro k R hR;have hout:¬(k0≤k∧k<k0+(shS k0 σ1).length):=fun h=>by
   have:=hdead (k-k0) (by omega);rw[show k0+(k-k0)=k by omega,hR]at this;cases this
  refine⟨by simp only[φ',if_neg hout],R,by simp only[over,if_neg hout];exact hR,rfl,id,fun hg=>by rw[hγold _ (hS.bound _ _ _ hg)];exact hg,fun j x hx=>⟨⟨x,hx⟩,fun c c' T f T' f' e e'=> ?_⟩⟩;rw[(hold _ (Array.getElem?_eq_some_iff.1 e).1).1,e]at e';simp at e';rw[e'.1]
 have hImA:all=false→∀b,Im w1 γ1 b→Im w1 γ' b:=by
  intro ha b hb;refine⟨hb.1, ?_⟩;by_cases hlt:b<w.heap.size
  ·rw[hγold b hlt]
   have h2:=(hold b hlt).2;rw[hb.2]at h2;simp only[labC,ha]at h2;cases hg:γ b with
   |im=>rfl
   |off=>simp [hg]at h2
   |r k p=>simp [hg]at h2
  ·simp [γ',labM,hlt,hb.2,Lab.rn]
 refine⟨γ',φ',hKst,hL,⟨fun b k p hb=> ?_,fun k R hR=> ?_,hS.adm.mono hKst⟩,Rel.emb hE res v (hp.imp hImA (by simp;exact fun h _=>h)) hres⟩
 ·by_cases hlt:b<w.heap.size
  ·exact Nat.lt_of_lt_of_le hlt hK.size
  ·simp only[γ',labM,hlt,if_false]at hb
   cases hg:γ1 b with
   |r i q=>exact hS1.bound b i q hg
   |im=>simp [hg,Lab.rn]at hb
   |off=>simp [hg,Lab.rn]at hb
 ·by_cases hin:k0≤k∧k<k0+(shS k0 σ1).length
  ·rw[BX _ _ _ _ hin]at hR
   simp only[zm]at hR;obtain⟨R0,hR0,rfl⟩:=hR;have hk0:k-k0+k0=k:=by omega
   rcases hS1.root _ _ hR0 with h1|⟨cur,T,hh,hg,hl,hcells⟩
   ·exact .inl (by simp [h1,rnL])
   ·have hgo:=hE.go _ _ hR0
    rw[hk0]at hgo;refine .inr ⟨cur,T,by rw[hgo.1];exact hh,by rw[hgo.1,hnew _ _ _ hg,hk0],by simpa [aR]using hl,fun j av hav=> ?_⟩;simp only[aR,List.getElem?_map,zm]at hav;obtain⟨av0,h0,rfl⟩:=hav;obtain⟨u,hu,hr⟩:=hcells j av0 h0;have:=CRel.emb hE (hp.imp hImA (fun h=>by simp at h;exact yI (tX h.2 hR0) h0)) hr;rw[hk0]at this;exact⟨u,hu,this⟩
  ·simp only[over,if_neg hin]at hR
   rcases hS.root k R hR with h1|⟨cur,T,hh,hg,hl,hcells⟩
   ·exact .inl h1
   have hlt:=hS.bound _ _ _ hg
   refine .inr ⟨cur,T,by simp only[φ',if_neg hin];rw[(hold _ hlt).1];exact hh,by simp only[φ',if_neg hin];rw[hγold _ hlt];exact hg,hl,fun j av hav=> ?_⟩;obtain⟨u,hu,hr⟩:=hcells j av hav;exact⟨u,hu,CRel.mono hKst hL (fun b q hb=>by rw[hγold _ (hS.bound _ _ _ hb)];exact hb) (fun b q _ hb=>(hold _ (hS.bound _ _ _ hb)).1) hr⟩
theorem Be:∀{l:List Operand} {m:List O},cOs l=some m→m.length=l.length∧∀(i:Nat) (X:Operand),l[i]? =some X→∃Y,m[i]? =some Y∧cO X=some Y
 | [],m,h=>by
  simp only[cOs,zj]at h;subst h
  simp
 |x :: l,m,h=>by
  simp only[cOs]at h;split at h
  ·rename_i y m' hy hm'
   simp only[zj]at h;subst h;obtain⟨h1,h2⟩:=Be hm';refine⟨by simp [h1],fun i X hX=> ?_⟩;cases i with
   |zero=>simp at hX;subst hX;exact⟨y,by simp,hy⟩
   |succ i=>obtain⟨Y,hY,hc⟩:=h2 i X (by simpa using hX);exact⟨Y,by simpa using hY,hc⟩
  ·cases h
theorem tw{c:Call}{f:FuncId}{fn:Func}(ho:o.op=.call c)(hcal:c.callee=.value (.func f))(hf:P.funcs[f]? =some fn)(hb:fn.body.isSome=true)(hn:(fn.name== "runtime.NumGoroutine")=false)(ρ:Operand→Value)(hρ:ρ (.func f)=.func (.func f) #[] #[])(w:World):
  (execOp ρ o).run P w=.ok (.enter f (c.args.map ρ)) w:=by
 have hb':fn.body≠none:=by cases h:fn.body<;>simp_all
 have hn':fn.name≠ "runtime.NumGoroutine" :=by simpa using hn
 simp [execOp,ho,resolve,hcal,hρ,Deferred.ofValue,invoke,callFunc,program,Sem.run,hf,hn',hb']
theorem mg{γ:Labels}{φ:Nat→Nat}{τ:St}{w:World}{ρ:Operand→Value}{c:Call}{l:List O}(hl:cOs c.args.toList=some l)(hr:∀X Y,cO X=some Y→X∈c.args.toList→Rel w γ φ τ (ev Y) (ρ X)):
  RelL w γ φ τ (l.map ev) (c.args.map ρ).toList:=by
 obtain⟨h1,h2⟩:=Be hl;refine RelL.of_get (by simp [h1]) fun i x hx=> ?_
 simp only[List.getElem?_map,zm]at hx;obtain⟨Y,hY,rfl⟩:=hx;have hi:i<c.args.toList.length:=by rw[← h1];exact(List.getElem?_eq_some_iff.1 hY).1
 obtain⟨Y',hY',hc⟩:=h2 i _ (zg hi);rw[hY]at hY';obtain rfl:Y=Y':=by simpa using hY'
 refine⟨ρ c.args.toList[i], ?_,hr _ _ hc (List.getElem_mem hi)⟩;simp at hi;simp [hi]
theorem M3(c:Call)(f:FuncId)(ho:o.op=.call c)(hcal:c.callee=.value (.func f)){fn:Func}(hf:P.funcs[f]? =some fn)(hb:fn.body.isSome=true)(hn:(fn.name== "runtime.NumGoroutine")=false){l:List O}(hl:cOs c.args.toList=some l)
  (h:gI P s ev k0 (.call f l) K):
  Sound P s ev k0 o K:=by
 simp only[gI]at h;rcases h with ⟨ds,res,σ1,hexp,hspec,hpl,h⟩|⟨M,σv,ds,res,hM,hrw,hσ,hok,hall,hspec,hsc,h⟩
 rotate_left
 ·refine⟨_,_,h,fun γ φ τ w ρ hS hsub hd hr hρ=> ?_⟩
  rw[tw ho hcal hf hb hn ρ (hρ.1 f) w];simp only[Exec];have hargs:=mg (ev:=ev) hl (fun X Y hX hm=>hr X Y hX (by simp only[ho,Op.operands,Call.operands,hcal];simp;exact .inr (by simpa using hm)));have hv:∀i k,M[i]? =some k→∃R,τ k=some R∧at_ σv i=some R∧R.g=false:=by
   intro i k hi;have hmem:=List.all_eq_true.1 hall k (List.mem_of_getElem? hi);simp only[List.contains_iff_mem]at hmem;obtain⟨R,hR⟩:=(FV w γ φ τ).2 _ _ hargs k hmem;have hx:σv[i]? =some (some R):=by rw[← hσ,List.getElem?_map,hi,Option.map_some,hsub k R hR]
   obtain⟨R',e,hg,_⟩:=oc hok hx;obtain rfl:R=R':=by simpa using e
   exact⟨R,hR,by simp [at_,hx],hg⟩
  have hlen:σv.length=M.length:=by rw[← hσ];simp
  have hsim:Sim (labW M γ) (fun i=>φ (M.getD i 0)) (at_ σv) w:=by
   refine⟨fun b k p hb=> ?_,fun i R hi=> ?_,fun b l hb=>by obtain⟨h1,h2⟩:=hS.adm b l hb;exact⟨by simp [labW,h1],h2⟩⟩
   ·unfold labW at hb
    cases hg:γ b with
    |r k' p'=>exact hS.bound b k' p' hg
    |_=>simp [hg]at hb
   ·have him:i<M.length:=by
     by_cases hk:i<M.length
     ·exact hk
     ·simp [at_,List.getElem?_eq_none (show σv.length≤i by omega)]at hi
    have hMi:M[i]? =some M[i]:=zg him;have hgd:M.getD i 0=M[i]:=by simp [zq,hMi]
    obtain⟨R0,h1,h2,h3⟩:=hv i _ hMi;rw[h2]at hi;obtain rfl:R0=R:=by simpa using hi
    have hx:σv[i]? =some (some R0):=by rw[← hσ,List.getElem?_map,hMi,Option.map_some,hsub _ _ h1]
    obtain⟨R',e,_,hfl⟩:=oc hok hx;obtain rfl:R0=R':=by simpa using e
    rcases hS.root _ _ h1 with h0|⟨cur,T,hh,hg,hl,hcells⟩
    ·exact .inl h0
    ·refine .inr ⟨cur,T,by rw[hgd];exact hh,by show labW M γ (φ (M.getD i 0))=_;rw[hgd];simp [labW,hg,cz hM hMi],hl,fun j av hav=> ?_⟩
     obtain⟨u,hu,hr⟩:=hcells j av hav;exact⟨u,hu,n6 (List.all_eq_true.1 hfl av (List.mem_of_getElem? hav)) hr⟩
  refine Calls.mono (hspec (labW M γ) _ w _ hsim (BH hS hsub hv hrw hargs)) fun e w' hq=> ?_
  obtain⟨v,γ1,φ1,rfl,hK,hst,hS1,hres⟩:=hq;exact⟨v,rfl,EZ hS hM hlen hok hv hK hst hS1 hres hsc⟩
 refine⟨_,_,h,fun γ φ τ w ρ hS hsub hd hr hρ=> ?_⟩;rw[tw ho hcal hf hb hn ρ (hρ.1 f) w];simp only[Exec];have hargs:=mg (ev:=ev) hl (fun X Y hX hm=>hr X Y hX (by simp only[ho,Op.operands,Call.operands,hcal];simp;exact .inr (by simpa using hm)));have hentry:∀all,Sim (labC all γ) φ (at_ []) w:=fun all=>⟨fun b k p hb=>absurd hb (Dp b k p),fun k R hk=>by simp [at_]at hk,fun b l hb=>by obtain⟨h1,h2⟩:=hS.adm b l hb;exact⟨by simp [labC,h1],h2⟩⟩
 by_cases hp:dK (l.map ev)=true
 ·refine Calls.mono (hspec (labC false γ) φ w _ (hentry false) (oT hS hsub hexp hargs (.inr hp))) fun e w' hq=> ?_
  obtain⟨v,γ1,φ1,rfl,hK,_,hS1,hres⟩:=hq;exact⟨v,rfl,qk hS hd hK hS1 hres (.inl rfl)⟩
 ·refine Calls.mono (hspec (labC true γ) φ w _ (hentry true) (oT hS hsub hexp hargs (.inl rfl))) fun e w' hq=> ?_
  obtain⟨v,γ1,φ1,rfl,hK,_,hS1,hres⟩:=hq;exact⟨v,rfl,qk hS hd hK hS1 hres (.inr (by simpa [hp]using hpl))⟩
end
end Go.Lift
namespace Go.Lift
open Go.RowKit
section
variable {P : Program} {s : St} {ev : O → AV} {k0 : Nat} {K : AV → Sto → Prop} {o : Oper}
theorem fm(n:Int)(y:Nat)(code:BoundsCode)(h0:0≤n)(h1:n≤y)(w:World):(Instr.sliceBound (.int .i64 n) y code).run P w=.ok n.toNat w:=by
 simp [Instr.sliceBound,asIntOf,h0,h1]
def OptIs(ρ:Operand→Value)(x:Option Operand)(d i:Int):Prop:=(x=none∧i=d)∨∃y,x=some y∧ρ y=.int .i64 i
theorem q4{t e:TypeId}{x:Operand}{lo hi:Option Operand}(ho:o.op=.slice t x lo hi none){n:Nat}(hu:P.underlying t=some (.slice e))(hn:szOf P e=some n){ρ:Operand→Value}{w:World}
  {A:Option Addr} {m c:Nat} (hx:ρ x=.slice A m c) {l h:Int} (hl:OptIs ρ lo 0 l) (hh:OptIs ρ hi m h)
  (h0:0≤l) (h1:l≤h) (h2:h≤m) (hmc:m≤c):
  (execOp ρ o).run P w=.ok (.value (.slice (if c=l.toNat then A else A.map (·.add (l.toNat*n))) (h.toNat-l.toNat) (c-l.toNat))) w:=by
 obtain⟨ie,hie,hsz⟩:∃i,P.info? e=some i∧i.size=n:=by simpa [szOf]using hn
 have hb:(Instr.sliceBounds true m c (lo.map ρ) (hi.map ρ) none).run P w=.ok (l.toNat,h.toNat,c) w:=by
  unfold Instr.sliceBounds;rcases hl with ⟨rfl,rfl⟩|⟨y,rfl,hl⟩<;>rcases hh with ⟨rfl,rfl⟩|⟨z,rfl,hh⟩
  ·simp
  ·simp [hh,fm h c _ (by omega) (by omega)]
  ·simp [hl,fm l m _ (by omega) (by omega)]
  ·simp [hl,hh,fm h c _ (by omega) (by omega),fm l h.toNat _ (by omega) (by omega)]
 simp only[execOp,ho,Instr.sliceAt,Instr.slice,Sem.run_bind,run_underlying hu,Result.andThen_ok,hx,Option.map_none,hb,sizeOf,typeInfo,program,Sem.run,hie,Sem.run_pure,hsz]
theorem gA{γ:Labels}{φ:Nat→Nat}{τ:St}{w:World}{ρ:Operand→Value}{x:Option Operand}{x':Option O}(hc:cOo x=some x')(hr:∀X Y,cO X=some Y→X∈x.toArray.toList→Rel w γ φ τ (ev Y) (ρ X)){d i:Int}(h:optB ev x' d=some i):
  OptIs ρ x d i:=by
 cases x with
 |none=>
  simp only[cOo,zj]at hc;subst hc;simp only[optB,zj]at h;exact .inl ⟨rfl,h.symm⟩
 |some y=>
  simp only[cOo,zm]at hc;obtain⟨y',hy,rfl⟩:=hc;simp only[optB]at h;split at h
  ·rename_i j hev
   simp only[zj]at h;subst h;have:=hr y y' hy (by simp);rw[hev]at this;exact .inr ⟨y,rfl,bX this⟩
  ·cases h
theorem N4(t:TypeId)(x:Operand)(lo hi:Option Operand)(ho:o.op=.slice t x lo hi none){e:TypeId}{n:Nat}{x':O}{lo' hi':Option O}(hx:cO x=some x')(hlo:cOo lo=some lo')(hhi:cOo hi=some hi')(hu:P.underlying t=some (.slice e))(hn:szOf P e=some n)
  (h:gI P s ev k0 (.slc n x' lo' hi') K):Sound P s ev k0 o K:=by
 have hops:∀{γ:Labels} {φ:Nat→Nat} {τ:St} {w:World} {ρ:Operand→Value},(∀X Y,cO X=some Y→X∈o.op.operands.toList→Rel w γ φ τ (ev Y) (ρ X))→
   Rel w γ φ τ (ev x') (ρ x)∧(∀X Y,cO X=some Y→X∈lo.toArray.toList→Rel w γ φ τ (ev Y) (ρ X))∧(∀X Y,cO X=some Y→X∈hi.toArray.toList→Rel w γ φ τ (ev Y) (ρ X)):=by
  intro γ φ τ w ρ hr;refine⟨hr x x' hx (by simp [ho,Op.operands]),fun X Y hc hm=>hr X Y hc ?_,fun X Y hc hm=>hr X Y hc ?_⟩<;>simp only[ho,Op.operands,Array.toList_append,List.mem_append]<;>simp only[hm,true_or,or_true]
 simp only[gI]at h;split at h
 ·rename_i k off m hev
  split at h
  ·rename_i l hb R hl hh hR
   obtain⟨⟨h0,h1,h2⟩,hge,h⟩:=h;refine bD h fun γ φ τ w ρ hS hsub hr=> ?_
   obtain⟨hp,hrl,hrh⟩:=hops hr;rw[hev]at hp;simp only[Rel]at hp;obtain⟨R',hR',hp⟩:=hp;have:=hsub _ _ hR';rw[hR]at this;obtain rfl:R=R':=by simpa using this
   rcases hp with ⟨hp,rfl,rfl⟩|⟨c,cur,T,hp,hc,hlab,hheap,hcap⟩
   ·have hl0:l=0:=by omega
    have hb0:hb=0:=by omega
    refine⟨_,q4 ho hu hn hp (gA hlo hrl hl) (gA hhi hrh hh) h0 h1 h2 (Nat.le_refl _), ?_⟩;rw[if_pos (.inl hl0),hl0,hb0];simp only[Rel];exact⟨R,hR',.inl ⟨by simp,by simp,by simp⟩⟩
   ·refine⟨_,q4 ho hu hn hp (gA hlo hrl hl) (gA hhi hrh hh) h0 h1 h2 hc, ?_⟩
    split
    ·rename_i hcase
     simp only[Rel];refine⟨R,hR',.inr ⟨c-l.toNat,cur,T, ?_,by omega,hlab,hheap,fun hg=> ?_⟩⟩
     ·have e1:(hb-l).toNat=hb.toNat-l.toNat:=by omega
      rw[e1];by_cases hcl:c=l.toNat
      ·have:l=0:=by omega
       subst this;simp [hcl]
      ·rw[if_neg hcl]
       simp [db]
     ·have:=hcap hg
      rw[hge hg]at this ⊢;have e2:l.toNat*n+(c-l.toNat)*n=c*n:=by rw[← Nat.add_mul];congr 1;omega
      omega
    ·rename_i hcase
     have hlh:l=hb:=by omega
     simp only[Rel,Rd];rw[show hb.toNat-l.toNat=0 by omega];exact⟨_,_,rfl,Nat.zero_le _,.inl ⟨trivial,trivial⟩⟩
  ·exact h.elim
 ·rename_i m cs hev
  split at h
  ·rename_i l hb hl hh
   obtain⟨⟨h0,h1,h2⟩,h⟩:=h;refine bD h fun γ φ τ w ρ hS hsub hr=> ?_
   obtain⟨hp,hrl,hrh⟩:=hops hr;rw[hev]at hp;simp only[Rel,Rd]at hp;obtain⟨A,c,hp,hc,hd⟩:=hp;refine⟨_,q4 ho hu hn hp (gA hlo hrl hl) (gA hhi hrh hh) h0 h1 h2 hc, ?_⟩;simp only[Rel,Rd];have e1:(hb-l).toNat=hb.toNat-l.toNat:=by omega
   rw[e1];refine⟨_,_,rfl,by omega, ?_⟩;by_cases hz:hb.toNat-l.toNat=0
   ·exact .inl ⟨hz,by rw[hz];simp⟩
   ·rcases hd with ⟨h3,_⟩|⟨b,o1,rfl,hb',hrd⟩
    ·omega
    ·refine .inr ⟨b,o1+l.toNat*n, ?_,hb',RdL.of_get fun i y hy=> ?_⟩
     ·rw[if_neg (by omega)]
      simp [db]
     ·simp only[List.getElem?_take,List.getElem?_drop]at hy
      split at hy
      ·obtain⟨v,hv,hr⟩:=hrd.get hy
       exact⟨v,by rw[Nat.add_assoc];exact hv,hr⟩
      ·cases hy
  ·exact h.elim
 ·rename_i hev
  split at h
  ·rename_i l hb hl hh
   obtain⟨⟨h0,h1⟩,h⟩:=h;refine bD h fun γ φ τ w ρ hS hsub hr=> ?_
   obtain⟨hp,hrl,hrh⟩:=hops hr;rw[hev]at hp;refine⟨_,q4 ho hu hn (dX hp) (gA hlo hrl hl) (gA hhi hrh (d:=(0:Nat)) hh) (by omega) (by omega) (by omega) (Nat.le_refl _), ?_⟩;subst h0 h1;simp [Rel]
  ·exact h.elim
 ·exact h.elim
def CopyOk(x:AV):Prop:=(∀k j,cv k j x=x)∧(∀{w γ φ s v},Rel w γ φ s x v→v.oneCell'=true)∧okC x=true
theorem Df{w:World}{I:Nat→Prop}{x:D}{v:Value}(h:Rd w I x v):v.oneCell'=true:=by
 cases x with
 |sl n l=>simp only[Rd]at h;obtain⟨A,c,rfl,_⟩:=h;rfl
 |_=>simp only[Rd]at h;subst h;rfl
theorem CopyOk.d(x:D):CopyOk (.d x):=⟨fun _ _=>rfl,fun h=>by rw[Rel]at h;exact Df h,rfl⟩
theorem CopyOk.nil:CopyOk .nil:=⟨fun _ _=>rfl,fun h=>by rw[dX h];rfl,rfl⟩
theorem CopyOk.own(k o n:Nat):CopyOk (.own k o n):=⟨fun _ _=>rfl,fun h=>by
 simp only[Rel]at h;obtain⟨R,_,⟨rfl,_⟩|⟨c,cur,T,rfl,_⟩⟩:=h<;>rfl,rfl⟩
theorem CopyOk.ptr(k o:Nat):CopyOk (.ptr k o):=⟨fun _ _=>rfl,fun h=>by
 simp only[Rel]at h;obtain⟨R,_,rfl⟩:=h
 rfl,rfl⟩
theorem xW:∀{l m:List AV},hH l=some m→m=l∧∀(i:Nat) (x:AV),l[i]? =some x→CopyOk x
 | [],m,h=>by
  simp only[hH,zj]at h;subst h
  simp
 |x :: l,m,h=>by
  have key:∀{y:AV},CopyOk y→(hH l).map (y :: ·)=some m→m=y :: l∧∀(i:Nat) (x:AV),(y :: l)[i]? =some x→CopyOk x:=by
   intro y hy h;simp only[zm]at h;obtain⟨m',hm',rfl⟩:=h;obtain⟨rfl,hg⟩:=xW hm';refine⟨rfl,fun i x hx=> ?_⟩;cases i with
   |zero=>simp at hx;subst hx;exact hy
   |succ i=>exact hg i x (by simpa using hx)
  cases x with
  |d z=>exact key (.d z) h
  |nil=>exact key .nil h
  |own k o n=>exact key (.own k o n) h
  |ptr k o=>exact key (.ptr k o) h
  |_=>simp [hH]at h
theorem vV{γ:Labels}{φ:Nat→Nat}{τ:St}{w:World}(hS:Sim γ φ τ w)(hsub:∀k R,τ k=some R→s k=some R){x:AV}{v:Value}{m q:Nat}{l:List AV}(hm:lenA s x=some m)(hl:srcA s q x=some l)(hq:m=0→q=0)(hr:Rel w γ φ τ x v):
  ∃A c,v=.slice A m c∧l.length=q∧(q=0∨∃a news,A=some a∧news.length=q∧(∀(j:Nat) (u:Value),news[j]? =some u→w.cell? (a.add j)=some u)∧RelL w γ φ τ l news∧(∀u∈news,u.oneCell'=true)):=by
 unfold srcA at hl;split at hl
 ·simp only[lenA,zj]at hm hl
  subst hm;subst hl;exact⟨none,0,dX hr,by simp [hq rfl],.inl (hq rfl)⟩
 ·rename_i n cs
  simp only[lenA,zj]at hm;subst hm;split at hl
  ·rename_i hle
   simp only[zj]at hl;subst hl;simp only[Rel,Rd]at hr;obtain⟨A,c,rfl,hc,hd⟩:=hr;refine⟨A,c,rfl,by simp;omega, ?_⟩;by_cases h0:q=0
   ·exact .inl h0
   refine .inr ?_
   rcases hd with ⟨h1,h2⟩|⟨b,o1,rfl,hb,hrd⟩
   ·exact absurd (hq h1) h0
   obtain⟨vs,hvl,hvs⟩:=jt (w:=w) (ad:=⟨b,o1,none⟩) (n:=q) (Q:=fun j v=>∀x,cs[j]? =some x→Rd w (Im w γ) x v) (fun j hj=>by
    obtain⟨v,hv,hrel⟩:=hrd.get (i:=j) (x:=cs[j]'(by omega)) (by simp);exact⟨v,by rw[db];exact hv,fun x hx=>by rw[zg (by omega)]at hx;simp at hx;subst hx;exact hrel⟩)
   refine⟨_,vs,rfl,hvl,fun j u hu=>(hvs j u hu).1,RelL.of_get (by simp;omega) fun i x hx=> ?_,fun u hu=> ?_⟩
   ·simp only[List.getElem?_map,List.getElem?_take,zm]at hx
    obtain⟨y,hy,rfl⟩:=hx;split at hy
    ·rename_i hi
     have hlt:i<vs.length:=by omega
     exact⟨vs[i],by simp [hlt],by simp only[Rel];exact(hvs i _ (by simp [hlt])).2 y hy⟩
    ·cases hy
   ·obtain⟨j,hj,rfl⟩:=List.mem_iff_getElem.1 hu
    exact Df ((hvs j _ (by simp [hj])).2 (cs[j]'(by omega)) (by simp))
  ·cases hl
 ·rename_i k off n
  simp only[lenA,zj]at hm;subst hm;split at hl
  ·rename_i R hR
   split at hl
   ·rename_i hle
    obtain⟨rfl,hI⟩:=xW hl;have hlen:((R.cells.drop off).take q).length=q:=by simp;omega
    simp only[Rel]at hr;obtain⟨R',hR',hr⟩:=hr;have:=hsub _ _ hR';rw[hR]at this;obtain rfl:R=R':=by simpa using this
    rcases hr with ⟨rfl,rfl,rfl⟩|⟨c,cur,T,rfl,hn,hg,hh,_⟩
    ·exact⟨none,0,rfl,hlen,.inl (hq rfl)⟩
    refine⟨_,c,rfl,hlen, ?_⟩
    by_cases h0:q=0
    ·exact .inl h0
    refine .inr ?_
    obtain⟨vs,hvl,hvs⟩:=jt (w:=w) (ad:=⟨φ k,off,none⟩) (n:=q) (Q:=fun j v=>∀av,((R.cells.drop off).take q)[j]? =some av→Rel w γ φ τ av v) (fun j hj=>by
     obtain⟨u,hu,hrel⟩:=sk hS hR' (off:=off+j) (av:=R.cells[off+j]'(by omega)) (by simp);refine⟨u,by rw[db];exact hu,fun av hav=> ?_⟩;have h1:=hI j av hav;simp only[List.getElem?_take,hj,if_true,List.getElem?_drop]at hav;rw[zg (by omega)]at hav;simp at hav;subst hav;rw[h1.1]at hrel;exact hrel)
    refine⟨_,vs,rfl,hvl,fun j u hu=>(hvs j u hu).1,RelL.of_get (by rw[hvl,hlen]) fun i x hx=> ?_,fun u hu=> ?_⟩
    ·have hi:i<vs.length:=by
      have:=(List.getElem?_eq_some_iff.1 hx).1;omega
     exact⟨vs[i],by simp [hi],(hvs i _ (by simp [hi])).2 x hx⟩
    ·obtain⟨j,hj,rfl⟩:=List.mem_iff_getElem.1 hu
     have hj':j<((R.cells.drop off).take q).length:=by omega
     have h1:=(hvs j vs[j] (by simp [hj])).2 _ (zg hj')
     exact(hI j _ (zg hj')).2.1 h1
   ·cases hl
  ·cases hl
 ·cases hl
theorem Sim.virt{γ:Labels}{φ:Nat→Nat}{τ:St}{w:World}(hS:Sim γ φ τ w){k:Nat}(hk:τ k=none)(e:Nat):
  Live w γ φ τ w γ φ (upd τ k (some ⟨e,true,[]⟩))∧Sim γ φ (upd τ k (some ⟨e,true,[]⟩)) w:=by
 have hL:Live w γ φ τ w γ φ (upd τ k (some ⟨e,true,[]⟩)):=by
  intro i R hR;have hne:i≠k:=fun h=>by rw[h,hk]at hR;cases hR
  refine⟨rfl,R,by rw[au _ _ hne];exact hR,rfl,id,id,fun j x hx=>⟨⟨x,hx⟩,fun c c' T f T' f' h h'=> ?_⟩⟩;rw[h]at h';simp at h';rw[h'.1]
 refine⟨hL,⟨hS.bound,fun i R hR=> ?_,hS.adm⟩⟩;by_cases h:i=k
 ·subst h
  rw[aC]at hR;obtain rfl:(⟨e,true,[]⟩:Root)=R:=by simpa using hR
  exact .inl rfl
 ·rw[au _ _ h]at hR
  rcases hS.root i R hR with h1|⟨cur,T,hh,hg,hl,hcells⟩
  ·exact .inl h1
  ·refine .inr ⟨cur,T,hh,hg,hl,fun j av hav=> ?_⟩
   obtain⟨u,hu,hr⟩:=hcells j av hav;exact⟨u,hu,CRel.mono (Kst.refl _ _) hL (fun _ _ h=>h) (fun _ _ _ _=>rfl) hr⟩
theorem y5{w:World}{γ:Labels}{φ:Nat→Nat}{τ:St}:∀{l:List AV} {zs:List Int} {vs:List Value},p9 l=some zs→RelL w γ φ τ l vs→vs=zs.map (.int .u8)
 | [],zs,vs,h,hr=>by
  simp only[p9,zj]at h;subst h;simpa only[RelL,List.map_nil]using hr
 |x :: l,zs,vs,h,hr=>by
  unfold p9 at h;split at h
  ·rename_i heq;cases heq
  ·rename_i n l' heq
   simp only[List.cons.injEq]at heq;obtain⟨rfl,rfl⟩:=heq;simp only[zm]at h;obtain⟨b,hb,rfl⟩:=h;simp only[RelL]at hr;obtain⟨v,vs',rfl,hx,hl⟩:=hr;rw[BO hx,y5 hb hl]
   rfl
  ·cases h
theorem Nk(sT dT:TypeId)(x:Operand)(ho:o.op=.convert sT dT x){x':O}(hx:cO x=some x'){e:TypeId}(hs:P.underlying sT=some (.slice e))(he:P.underlying e=some (.int .u8))(hd:P.underlying dT=some .string)(h:gI P s ev k0 (.bst x') K):Sound P s ev k0 o K:=by
 simp only[gI]at h;split at h
 ·rename_i m hm
  split at h
  ·rename_i l hl
   split at h
   ·rename_i zs hz
    refine bD h fun γ φ τ w ρ hS hsub hr=> ?_
    have hq:=hr x x' hx (by simp [ho,Op.operands]);obtain⟨A,cc,hv,hll,hsrc⟩:=vV hS hsub hm hl (fun h=>h) hq;rcases hsrc with h0|⟨a,news,rfl,hnl,hncells,hrel,hone⟩
    ·have hl0:l=[]:=List.eq_nil_of_length_eq_zero (by omega)
     subst hl0;simp only[p9,zj]at hz;subst hz;subst h0;refine⟨.string (wC []), ?_,by simp [Rel,Rd]⟩;cases A with
     |none=>simp [execOp,ho,hv,run_convert_bytes_string w sT dT e none 0 cc hs he hd,Conv.bytesToString,wC,Sem.run_pure]
     |some a=> 
      have:=run_bytesToString (P:=P) w a 0 cc [] (by simpa using run_loadCells_list (P:=P) (w:=w) a [] (by simp));simp only[List.foldl_nil]at this;simp [execOp,ho,hv,run_convert_bytes_string w sT dT e (some a) 0 cc hs he hd,this,wC]
    ·have hvs:=y5 hz hrel
     have hlen:zs.length=m:=by rw[← hnl,hvs];simp
     refine⟨.string (wC zs), ?_,by simp [Rel,Rd]⟩;have hld:=run_loadCells_list (P:=P) (w:=w) a news hncells;rw[hnl,hvs]at hld;have:=run_bytesToString (P:=P) w a m cc zs hld;simp [execOp,ho,hv,run_convert_bytes_string w sT dT e (some a) m cc hs he hd,this,wC]
   ·exact h.elim
  ·exact h.elim
 ·exact h.elim
theorem eQ{c:Call}{x y:Operand}{t:TypeId}(ho:o.op=.call c)(hcal:c.callee=.builtin .append)(hargs:c.args.toList=[x,y])(hat:c.argTypes.toList=[t,t]){ρ:Operand→Value}{w w':World}{v:Value}
  (hrun:∀ty,(Builtin.append_ #[t,t] ty #[ρ x,ρ y]).run P w=.ok v w'):(execOp ρ o).run P w=.ok (.value v) w':=by
 have ha:c.args= #[x,y]:=by rw[← Array.toArray_toList (xs:=c.args),hargs]
 have ht:c.argTypes= #[t,t]:=by rw[← Array.toArray_toList (xs:=c.argTypes),hat]
 simp [execOp,ho,resolve,hcal,ha,ht,invoke,builtin,hrun]
theorem H2(c:Call)(x y:Operand)(t:TypeId)(ho:o.op=.call c)(hcal:c.callee=.builtin .append)(hargs:c.args.toList=[x,y])(hat:c.argTypes.toList=[t,t]){e:TypeId}{i:TypeInfo}{z:List AV}{x' y':O}(hx:cO x=some x')(hy:cO y=some y')
  (hu:P.underlying t=some (.slice e)) (hi:P.info? e=some i) (hz:zOf P e=some z) (h1:1≤i.bytes) (h2:1≤i.size) (h:gI P s ev k0 (.app i.size i.bytes z x' y') K):Sound P s ev k0 o K:=by
 simp only[gI]at h;split at h
 ·rename_i hevx
  split at h
  ·rename_i m hm
   split at h
   ·rename_i l hl
    obtain⟨hb,h⟩:=h;refine⟨_,_,h,fun γ φ τ w ρ hS hsub hd hr _=> ?_⟩;have hp:=hr x x' hx (by simp [ho,Op.operands,Call.operands,hcal,hargs]);have hq:=hr y y' hy (by simp [ho,Op.operands,Call.operands,hcal,hargs]);rw[hevx]at hp;have hp:=dX hp;obtain⟨i',zv,hi',hzv,hcs,hlen,hsize⟩:=j9 hz;rw[hi]at hi';obtain rfl:i=i':=by simpa using hi'
    obtain⟨A,cc,hv,hll,hsrc⟩:=vV hS hsub hm hl (fun h=>by rw[h];simp) hq;have hdead:=hd 0 (by simp);rw[Nat.add_zero]at hdead;by_cases h0:m=0
    ·subst h0
     have hl0:l=[]:=List.eq_nil_of_length_eq_zero (by rw[hll];simp);subst hl0;rw[eQ ho hcal hargs hat (v:=.slice none 0 0) (w':=w) (fun ty=>by
      rw[hp,hv];cases A with
      |none=>simp [Builtin.append_,run_underlying hu,sizeOf,typeInfo,hi,Builtin.lenOf,Builtin.firstCells]
      |some a=>simp [Builtin.append_,run_underlying hu,sizeOf,typeInfo,hi,Builtin.lenOf,Builtin.firstCells,loadCells,loadCellsFrom])]
     simp only[Exec];obtain⟨hL,hS'⟩:=hS.virt hdead i.size;refine⟨γ,φ,Kst.refl _ _, ?_⟩;rw[oy];refine⟨hL,hS', ?_⟩;simp only[Rel];exact⟨_,aC _ _ _,.inl ⟨trivial,trivial,trivial⟩⟩
    ·have hne:m*i.size≠0:=fun h=>by rcases Nat.mul_eq_zero.1 h with h|h<;>omega
     obtain⟨a,news,rfl,hnl,hcells,hrel,hone⟩:=hsrc.resolve_left hne;have hmb:m≤i.bytes*m:=Nat.le_mul_of_pos_left _ h1;have hrun:=fun ty=>run_append_nil (P:=P) w t ty e i zv hu hi hzv a m cc news hnl hcells (by omega) (by omega) (by rw[Nat.mul_comm];omega)
     rw[eQ ho hcal hargs hat (fun ty=>by rw[hp,hv];exact hrun ty)];simp only[Exec];have hge:=grownCap_ge w m 0 e;have hsz:(news.toArray++Builtin.zeroCells zv.cells (grownCap w m 0 e-m)).size=grownCap w m 0 e*i.size:=by
      simp only[Array.size_append,List.size_toArray,hnl,size_zeroCells,hsize, ← Nat.add_mul]
      congr 1
      omega
     obtain⟨γ',φ',hK,hL,hS',hR'⟩:=GPost.alloc (r:=.own k0 0 m) (v:=.slice (some ⟨w.drew.heap.size,0,none⟩) m (grownCap w m 0 e)) hS.drew hdead (news.toArray++Builtin.zeroCells zv.cells (grownCap w m 0 e-m)) e ⟨i.size,true,l⟩ (by rw[hsz,hll];exact Nat.mul_le_mul_right _ hge) (fun j av hav=>by
      obtain⟨u,hu',hr'⟩:=hrel.get hav;refine⟨u, ?_,Rel.mono (Kst.drew γ w) (fun i R hR=>⟨rfl,R,hR,rfl,id,id,fun j x hx=>⟨⟨x,hx⟩,fun c c' T f T' f' h h'=>by rw[show w.drew.heap=w.heap from rfl,h]at h';simp at h';rw[h'.1]⟩⟩) av u hr'⟩;have hj:j<news.length:=(List.getElem?_eq_some_iff.1 hu').1;rw[Array.getElem?_append_left (by simpa using hj)];simpa using hu') (ow _ _ _ _ _ hge (fun _=>by rw[hsz];exact Nat.le_refl _))
     exact⟨γ',φ',(Kst.drew γ w).trans hK,hL,hS',hR'⟩
   ·exact h.elim
  ·exact h.elim
 ·exact h.elim
theorem J1{γ:Labels}{φ:Nat→Nat}{τ:St}{w:World}{ρ:Operand→Value}{xs:Array Operand}{l:List O}(hl:cOs xs.toList=some l)(hr:∀X Y,cO X=some Y→X∈xs.toList→Rel w γ φ τ (ev Y) (ρ X)):
  RelL w γ φ τ (l.map ev) (xs.map ρ).toList:=by
 obtain⟨h1,h2⟩:=Be hl;refine RelL.of_get (by simp [h1]) fun i x hx=> ?_
 simp only[List.getElem?_map,zm]at hx;obtain⟨Y,hY,rfl⟩:=hx;have hi:i<xs.toList.length:=by rw[← h1];exact(List.getElem?_eq_some_iff.1 hY).1
 obtain⟨Y',hY',hc⟩:=h2 i _ (zg hi);rw[hY]at hY';obtain rfl:Y=Y':=by simpa using hY'
 refine⟨ρ xs.toList[i], ?_,hr _ _ hc (List.getElem_mem hi)⟩;simp at hi;simp [hi]
theorem N9(f:Nat)(caps:Array Operand)(ho:o.op=.makeFunc (.func f) #[] caps){l:List O}(hl:cOs caps.toList=some l)(h:gI P s ev k0 (.mkc f l) K):Sound P s ev k0 o K:=by
 simp only[gI]at h;refine⟨_,_,h,fun γ φ τ w ρ hS hsub hd hr hρ=> ?_⟩;have hc:=J1 (ev:=ev) (γ:=γ) (φ:=φ) (τ:=τ) (w:=w) (ρ:=ρ) hl (fun X Y hX hm=>hr X Y hX (by simp only[ho,Op.operands];simpa using hm));have hrun:(execOp ρ o).run P w=.ok (.value (.func (.func f) #[] (caps.map ρ))) w:=by
  simp [execOp,ho,Instr.makeFunc]
 rw[hrun];simp only[Exec];refine⟨γ,φ,Kst.refl _ _,by rw[fo];exact Live.refl _ _ _ _,by rw[fo];exact hS, ?_⟩;rw[fo];simp only[Rel];exact⟨_,rfl,hc⟩
theorem Ad{c:Call}{t:Nat}{f:Nat}(ho:o.op=.call c)(hcal:c.callee=.value (.tmp t))(hok:tz P f=true){ρ:Operand→Value}{vs:Array Value}(hρ:ρ (.tmp t)=.func (.func f) #[] vs)(w:World):
  (execOp ρ o).run P w=.ok (.enter f (c.args.map ρ++vs)) w:=by
 unfold tz at hok;split at hok
 ·rename_i fn hf
  simp only[Bool.and_eq_true,Bool.not_eq_true']at hok;obtain⟨hb,hn⟩:=hok;have hb':fn.body≠none:=by cases h:fn.body<;>simp_all
  have hn':fn.name≠ "runtime.NumGoroutine" :=by simpa using hn
  simp [execOp,ho,resolve,hcal,hρ,Deferred.ofValue,invoke,callFunc,program,Sem.run,hf,hn',hb']
 ·cases hok
theorem Ni(c:Call)(t:Nat)(ho:o.op=.call c)(hcal:c.callee=.value (.tmp t)){l:List O}(hl:cOs c.args.toList=some l)(h:gI P s ev k0 (.cvl (.t t) l) K):Sound P s ev k0 o K:=by
 simp only[gI]at h;split at h
 ·rename_i f caps hev
  obtain⟨hok,ds,res,σ1,hexp,hspec,hpl,h⟩:=h;refine⟨_,_,h,fun γ φ τ w ρ hS hsub hd hr hρ=> ?_⟩;have hx:=hr (.tmp t) (.t t) rfl (by simp [ho,Op.operands,Call.operands,hcal]);rw[hev]at hx;simp only[Rel]at hx;obtain⟨vs,hvs,hcap⟩:=hx;rw[Ad ho hcal hok hvs w];simp only[Exec];have hargs0:=mg (ev:=ev) hl (fun X Y hX hm=>hr X Y hX (by simp only[ho,Op.operands,Call.operands,hcal];simp;exact .inr (by simpa using hm)));have hargs:RelL w γ φ τ (l.map ev++caps) (c.args.map ρ++vs).toList:=by rw[Array.toList_append];exact hargs0.append hcap
  have hentry:∀all,Sim (labC all γ) φ (at_ []) w:=fun all=>⟨fun b k p hb=>absurd hb (Dp b k p),fun k R hk=>by simp [at_]at hk,fun b l hb=>by obtain⟨h1,h2⟩:=hS.adm b l hb;exact⟨by simp [labC,h1],h2⟩⟩
  by_cases hp:dK (l.map ev++caps)=true
  ·refine Calls.mono (hspec (labC false γ) φ w _ (hentry false) (oT hS hsub hexp hargs (.inr hp))) fun e w' hq=> ?_
   obtain⟨v,γ1,φ1,rfl,hK,_,hS1,hres⟩:=hq;exact⟨v,rfl,qk hS hd hK hS1 hres (.inl rfl)⟩
  ·refine Calls.mono (hspec (labC true γ) φ w _ (hentry true) (oT hS hsub hexp hargs (.inl rfl))) fun e w' hq=> ?_
   obtain⟨v,γ1,φ1,rfl,hK,_,hS1,hres⟩:=hq;exact⟨v,rfl,qk hS hd hK hS1 hres (.inr (by simpa [hp]using hpl))⟩
 ·exact h.elim
theorem CC{i:I}(hc:cOp P o.op=some i)(h:gI P s ev k0 i K):Sound P s ev k0 o K:=by
 cases hop:o.op with
 |move x=>simp only[hop,cOp,zm]at hc;obtain⟨y,hy,rfl⟩:=hc;exact GZ x (.inl hop) hy h
 |assign x=>simp only[hop,cOp,zm]at hc;obtain⟨y,hy,rfl⟩:=hc;exact GZ x (.inr hop) hy h
 |pick c a b=>
  simp only[hop,cOp]at hc;split at hc
  ·rename_i c' a' b' h1 h2 h3
   simp only[zj]at hc;subst hc;exact LX c a b hop h1 h2 h3 h
  ·cases hc
 |alloc t=>
  simp only[hop,cOp]at hc;split at hc
  ·rename_i z hz
   simp only[zj]at hc;subst hc;exact JS t hop hz h
  ·split at hc
   ·rename_i hz
    simp only[zj]at hc;subst hc;exact H3 t hop hz h
   ·cases hc
 |box t x=>simp only[hop,cOp,zm]at hc;obtain⟨y,hy,rfl⟩:=hc;exact Nl t x hop hy h
 |build t ps=>
  simp only[hop,cOp]at hc;split at hc
  ·rename_i fs z hu hz
   split at hc
   ·rename_i hall
    simp only[zm]at hc;obtain⟨qs,hq,rfl⟩:=hc;exact JR t ps hop hu hz hall hq h
   ·cases hc
  ·cases hc
 |buildSlice t n ps=>
  simp only[hop,cOp]at hc;split at hc
  ·rename_i e hu
   split at hc
   ·rename_i size z hs hz
    split at hc
    ·rename_i hcond
     simp only[zm]at hc;obtain⟨qs,hq,rfl⟩:=hc;exact LY t n ps hop hu hs hz hcond.1 hcond.2 hq h
    ·cases hc
   ·cases hc
  ·cases hc
 |load t a=>
  simp only[hop,cOp]at hc;split at hc
  ·rename_i n a' h1 h2 h3
   simp only[zj]at hc;subst hc;exact Nb t a hop h3 h1 h2 h
  ·rename_i a' h1 h2 h3
   simp only[zj]at hc;subst hc;exact s_ld t a hop h3 h1 h
  ·cases hc
 |binOp op t x y t'=>
  simp only[hop,cOp]at hc;split at hc
  ·rename_i nn x' y' hs hu hx hy
   simp only[zj]at hc;subst hc;exact N5 op t t' x y hop hx hs h
  ·cases hc
  ·rename_i kk x' y' hs hu hx hy
   simp only[zj]at hc;subst hc;exact Nm op t t' x y hop hx hy h
  ·rename_i x' y' hs hu hx hy
   split at hc
   ·simp only[zj]at hc
    subst hc;exact H1 .eql false (.inl ⟨rfl,rfl⟩) t t' x y hop hx hy hu h
   ·simp only[zj]at hc
    subst hc;exact H1 .neq true (.inr ⟨rfl,rfl⟩) t t' x y hop hx hy hu h
   ·cases hc
  ·rename_i x' y' hs hu hx hy
   split at hc
   ·simp only[zj]at hc
    subst hc;exact Nj t t' x y hop hx hy h
   ·simp only[zj]at hc
    subst hc;exact H0 .eql false (.inl ⟨rfl,rfl⟩) t t' x y hop hx hy h
   ·simp only[zj]at hc
    subst hc;exact H0 .neq true (.inr ⟨rfl,rfl⟩) t t' x y hop hx hy h
   ·cases hc
  ·rename_i fs x' y' hs hu hx hy
   split at hc
   ·rename_i hok
    split at hc
    ·simp only[zj]at hc
     subst hc;exact Le .eql false (.inl ⟨rfl,rfl⟩) t t' x y hop hx hy hu hok.1 hok.2.1 hok.2.2 h
    ·simp only[zj]at hc
     subst hc;exact Le .neq true (.inr ⟨rfl,rfl⟩) t t' x y hop hx hy hu hok.1 hok.2.1 hok.2.2 h
    ·cases hc
   ·cases hc
  ·rename_i e x' y' hs hu hx hy
   split at hc
   ·simp only[zj]at hc
    subst hc;exact Ld .eql false (.inl ⟨rfl,rfl⟩) t t' x y hop hx hy hu h
   ·simp only[zj]at hc
    subst hc;exact Ld .neq true (.inr ⟨rfl,rfl⟩) t t' x y hop hx hy hu h
   ·cases hc
  ·cases hc
 |nilCheck x=>simp only[hop,cOp,zm]at hc;obtain⟨y,hy,rfl⟩:=hc;exact N8 x hop hy h
 |convert sT dT x=>
  simp only[hop,cOp]at hc;split at hc
  ·rename_i x' hs hd hx
   simp only[zj]at hc;subst hc;exact M2 sT dT x hop hx hs hd h
  ·rename_i x' hs hd hx
   simp only[zj]at hc;subst hc;exact M1 sT dT x hop hx hs hd h
  ·rename_i e x' hs hd hx
   split at hc
   ·rename_i he
    simp only[zj]at hc;subst hc;exact Nk sT dT x hop hx hs he hd h
   ·cases hc
  ·cases hc
 |field t x f=>
  simp only[hop,cOp]at hc;split at hc
  ·rename_i fs x' hu hx
   split at hc
   ·rename_i fd hf
    split at hc
    ·rename_i ag n hg hn
     simp only[zj]at hc;subst hc;exact Ng t x f hop hx hu hf hg hn h
    ·cases hc
   ·cases hc
  ·cases hc
 |unOp u t x=>
  cases u with
  |not=>simp only[hop,cOp,zm]at hc;obtain⟨y,hy,rfl⟩:=hc;exact N6 t x hop hy h
  |neg=>simp only[hop,cOp,zm]at hc;obtain⟨y,hy,rfl⟩:=hc;exact N7 t x hop hy h
  |_=>simp [hop,cOp]at hc
 |makeSlice t l c=>
  simp only[hop,cOp]at hc;split at hc
  ·rename_i e l' c' hu hl hc'
   split at hc
   ·rename_i j z hj hz
    split at hc
    ·rename_i hcond
     simp only[zj]at hc;subst hc;exact LZ t l c hop hl hc' hu hj hz hcond.1 h
    ·cases hc
   ·cases hc
  ·cases hc
 |slice t x lo hi mx=>
  cases mx with
  |some _=>simp [hop,cOp]at hc
  |none=>
   simp only[hop,cOp]at hc;split at hc
   ·rename_i e x' lo' hi' hu hx hlo hhi
    simp only[Option.bind_eq_some_iff]at hc;obtain⟨n,hn,hc⟩:=hc;split at hc
    ·simp only[zj]at hc
     subst hc;exact N4 t x lo hi hop hx hlo hhi hu hn h
    ·cases hc
   ·cases hc
 |fieldAddr t x f=>
  simp only[hop,cOp]at hc;split at hc
  ·rename_i fs x' hu hx
   split at hc
   ·rename_i fd hf
    split at hc
    ·rename_i n hn
     split at hc
     ·rename_i h1
      simp only[zj]at hc;subst hc;exact Nf t x f hop hx hu hf hn h1 h
     ·cases hc
    ·cases hc
   ·cases hc
  ·cases hc
 |indexAddr t x j=>
  simp only[hop,cOp]at hc;split at hc
  ·rename_i e x' j' hu hx hj
   simp only[zm]at hc;obtain⟨n,hn,rfl⟩:=hc;exact Nd t x j hop hx hj hu hn h
  ·rename_i m e x' j' hu hx hj
   simp only[zm]at hc;obtain⟨n,hn,rfl⟩:=hc;exact Nn t x j hop hx hj hu hn h
  ·cases hc
 |index t x j=>
  simp only[hop,cOp]at hc;split at hc
  ·rename_i m e x' j' hu hx hj
   split at hc
   ·rename_i hg hn
    simp only[zj]at hc;subst hc;exact Nc t x j hop hx hj hu hg hn h
   ·cases hc
  ·cases hc
 |extract x j=>simp only[hop,cOp,zm]at hc;obtain⟨y,hy,rfl⟩:=hc;exact Nh x j hop hy h
 |store t a x=>
  simp only[hop,cOp]at hc;split at hc
  ·split at hc
   ·simp only[zj]at hc
    subst hc;exact h.elim
   ·cases hc
  ·cases hc
 |call c=>
  simp only[hop,cOp]at hc;unfold EN at hc;split at hc
  ·rename_i f hcal
   split at hc
   ·rename_i fn l hf hl
    split at hc
    ·rename_i hcond
     simp only[zj]at hc;subst hc;simp only[Bool.and_eq_true,Bool.not_eq_true']at hcond;exact M3 c f hop hcal hf hcond.1 hcond.2 hl h
    ·cases hc
   ·cases hc
  ·rename_i hcal
   split at hc
   ·rename_i x t hargs hat
    split at hc
    ·rename_i e y hu hy
     simp only[zj]at hc;subst hc;exact Na c x t hop hcal hargs hat hy ⟨e,hu⟩ h
    ·rename_i y hu hy
     simp only[zj]at hc;subst hc;exact M0 c x t hop hcal hargs hat hy hu h
    ·cases hc
   ·cases hc
  ·rename_i hcal
   split at hc
   ·rename_i x y hargs
    split at hc
    ·rename_i x' y' hx hy
     simp only[zj]at hc;subst hc;exact Lc false c x y hop hcal hargs hx hy h
    ·cases hc
   ·cases hc
  ·rename_i hcal
   split at hc
   ·rename_i x y hargs
    split at hc
    ·rename_i x' y' hx hy
     simp only[zj]at hc;subst hc;exact Lc true c x y hop hcal hargs hx hy h
    ·cases hc
   ·cases hc
  ·rename_i hcal
   split at hc
   ·rename_i x y t u hargs hat
    split at hc
    ·rename_i e x' y' hu hx hy
     split at hc
     ·rename_i j z hj hz
      split at hc
      ·rename_i hcond
       simp only[zj]at hc;subst hc;obtain⟨c1,c2,rfl⟩:=hcond;exact H2 c x y u hop hcal hargs hat hx hy hu hj hz c1 c2 h
      ·cases hc
     ·cases hc
    ·cases hc
   ·cases hc
  ·split at hc
   ·split at hc
    ·simp only[Option.bind_eq_some_iff]at hc
     obtain⟨n,hn,hc⟩:=hc;split at hc
     ·simp only[zj]at hc
      subst hc;exact h.elim
     ·cases hc
    ·cases hc
   ·cases hc
  ·split at hc
   ·split at hc
    ·split at hc
     ·simp only[zj]at hc
      subst hc;exact h.elim
     ·cases hc
    ·cases hc
   ·cases hc
  ·rename_i t hcal
   simp only[zm]at hc;obtain⟨l,hl,rfl⟩:=hc;exact Ni c t hop hcal hl h
  ·cases hc
 |makeFunc fn first caps=>
  cases fn with
  |func f=>
   simp only[hop,cOp]at hc;split at hc
   ·rename_i hfi
    subst hfi;simp only[zm]at hc;obtain⟨l,hl,rfl⟩:=hc;exact N9 f caps hop hl h
   ·cases hc
  |_=>simp [hop,cOp]at hc
 |_=>simp [hop,cOp]at hc
end
end Go.Lift
