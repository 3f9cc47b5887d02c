/-
 LIFT, part 19: an operation that writes to nothing does in a larger store what it does in a smaller. No condition.
-/
import Derived.Test.YtobhmajhachnaaaGreatDoorLiftC
set_option linter.unusedSimpArgs false
set_option linter.unusedVariables false
namespace Go.Lift
open Go.RowKit
section
variable {P : Program} {s s' : St} {ev : O → AV} {k0 : Nat}
theorem tj(hs:∀k R,s k=some R→s' k=some R){x:AV}{d:D}(h:exp1 s x=some d):exp1 s' x=some d:=by
 unfold exp1 at h ⊢;split at h
 ·exact h
 ·exact h
 ·split at h
  ·rename_i R hR;simp only[hs _ _ hR];exact h
  ·cases h
 ·split at h
  ·rename_i R hR;simp only[hs _ _ hR];exact h
  ·cases h
 ·cases h
theorem EG(hs:∀k R,s k=some R→s' k=some R):∀{l m:List AV},expC s l=some m→expC s' l=some m
 | [],m,h=>h
 |x :: l,m,h=>by
  simp only[expC]at h ⊢;split at h
  ·rename_i y m' hy hm
   rw[tj hs hy,EG hs hm];exact h
  ·cases h
theorem Ab(hs:∀k R,s k=some R→s' k=some R):∀{l:List AV} {m:List D},d8 s l=some m→d8 s' l=some m
 | [],m,h=>h
 |x :: l,m,h=>by
  simp only[d8]at h ⊢;split at h
  ·rename_i y m' hy hm
   have hy':xZ s' x=some y:=by
    unfold xZ at hy ⊢;split at hy
    ·exact hy
    ·exact tj hs hy
   rw[Ab hs hm,hy'];exact h
  ·cases h
theorem KC(hs:∀k R,s k=some R→s' k=some R){x y:AV}(h:expA s x=some y):expA s' x=some y:=by
 unfold expA at h ⊢;split at h
 ·simp only[zm]at h ⊢
  obtain⟨m,hm,e⟩:=h;exact⟨m,EG hs hm,e⟩
 ·split at h
  ·rename_i R hR
   simp only[hs _ _ hR];split at h
   ·rename_i l hl
    simp only[Ab hs hl];exact h
   ·cases h
  ·cases h
 ·exact h
 ·simp only[zm]at h
  obtain⟨m,hm,e⟩:=h;rw[tj hs hm];simp [e]
theorem B2(hs:∀k R,s k=some R→s' k=some R):∀{l m:List AV},expL s l=some m→expL s' l=some m
 | [],m,h=>h
 |x :: l,m,h=>by
  simp only[expL]at h ⊢;split at h
  ·rename_i y m' hy hm
   rw[KC hs hy,B2 hs hm];exact h
  ·cases h
theorem H6(hs:∀k R,s k=some R→s' k=some R){M:List Nat}{x y:AV}(h:rw1 s M x=some y):rw1 s' M x=some y:=by
 unfold rw1 at h ⊢;split at h
 ·split at h
  ·exact h
  ·simp only[zm]at h ⊢
   obtain⟨d,hd,e⟩:=h;exact⟨d,tj hs hd,e⟩
 ·exact h
 ·exact h
 ·simp only[zm]at h ⊢
  obtain⟨d,hd,e⟩:=h;exact⟨d,tj hs hd,e⟩
theorem H5(hs:∀k R,s k=some R→s' k=some R){M:List Nat}:∀{l m:List AV},rwC s M l=some m→rwC s' M l=some m
 | [],m,h=>h
 |x :: l,m,h=>by
  simp only[rwC]at h ⊢;split at h
  ·rename_i y m' hy hm
   rw[H6 hs hy,H5 hs hm];exact h
  ·cases h
theorem H4(hs:∀k R,s k=some R→s' k=some R){M:List Nat}:∀{l m:List AV},rwL s M l=some m→rwL s' M l=some m
 | [],m,h=>h
 |x :: l,m,h=>by
  simp only[rwL]at h ⊢;split at h
  ·rename_i y m' hy hm
   have hA:rwA s' M x=some y:=by
    unfold rwA at hy ⊢;split at hy
    ·simp only[zm]at hy ⊢
     obtain⟨m2,hm2,e⟩:=hy;exact⟨m2,H5 hs hm2,e⟩
    ·exact H6 hs hy
   rw[hA,H4 hs hm];exact h
  ·cases h
theorem AF(hs:∀k R,s k=some R→s' k=some R){x:AV}{n:Nat}(h:lenA s x=some n):lenA s' x=some n:=by
 unfold lenA at h ⊢;split at h
 ·exact h
 ·exact h
 ·exact h
 ·exact h
 ·split at h
  ·rename_i R hR;simp only[hs _ _ hR];exact h
  ·cases h
 ·cases h
theorem E6(hs:∀k R,s k=some R→s' k=some R){x:AV}{n:Nat}{l:List AV}(h:srcA s n x=some l):srcA s' n x=some l:=by
 unfold srcA at h ⊢;split at h
 ·exact h
 ·exact h
 ·split at h
  ·rename_i R hR;simp only[hs _ _ hR];exact h
  ·cases h
 ·cases h
theorem KV{op:BinOp}{a b:Int}{K:AV→Prop}(h:binA op a b K):∃r,K r∧binA op a b fun r'=>r'=r:=by
 cases op<;>simp only[binA]at h ⊢ <;>first
  |exact⟨_,h,rfl⟩
  |exact⟨_,h.2,h.1,rfl⟩
  |exact h.elim
theorem NH{i:I}{K:AV→Sto→Prop}(h:gI P s ev k0 i K):∃r n,K r n∧∀s':St,(∀k R,s k=some R→s' k=some R)→gI P s' ev k0 i fun r' n'=>r'=r∧n'=n:=by
 cases i with
 |mv x=>exact⟨_,_,h,fun s' hs=>⟨rfl,rfl⟩⟩
 |pick c a b=>
  simp only[gI]at h;split at h
  ·rename_i t ht
   split at h
   ·rename_i htt;exact⟨_,_,h,fun s' hs=>by simp [gI,ht,htt]⟩
   ·rename_i htt;exact⟨_,_,h,fun s' hs=>by simp [gI,ht,htt]⟩
  ·exact h.elim
 |box x=>
  simp only[gI]at h;split at h
  ·rename_i l hl;exact⟨_,_,h,fun s' hs=>by simp [gI,hl]⟩
  ·exact h.elim
 |zer z=>exact⟨_,_,h,fun s' hs=>⟨rfl,rfl⟩⟩
 |agg z ps=>
  simp only[gI]at h;split at h
  ·rename_i l hl;exact⟨_,_,h,fun s' hs=>by simp [gI,hl]⟩
  ·exact h.elim
 |mksl e n z ps=>
  simp only[gI]at h;split at h
  ·rename_i l hl;exact⟨_,_,h,fun s' hs=>by simp [gI,hl]⟩
  ·exact h.elim
 |ld a=>
  simp only[gI]at h;split at h
  ·rename_i k off hev
   split at h
   ·rename_i R hR
    split at h
    ·rename_i av hav;exact⟨_,_,h,fun s' hs=>by simp [gI,hev,hs _ _ hR,hav]⟩
    ·exact h.elim
   ·exact h.elim
  ·rename_i l off hev
   split at h
   ·rename_i x hx;exact⟨_,_,h,fun s' hs=>by simp [gI,hev,hx]⟩
   ·exact h.elim
  ·rename_i k j off hev
   split at h
   ·rename_i R hR
    split at h
    ·rename_i n l hc
     split at h
     ·rename_i x hx;exact⟨_,_,h,fun s' hs=>by simp [gI,hev,hs _ _ hR,hc,hx]⟩
     ·rename_i x hx;exact⟨_,_,h,fun s' hs=>by simp [gI,hev,hs _ _ hR,hc,hx]⟩
     ·exact h.elim
    ·exact h.elim
   ·exact h.elim
  ·exact h.elim
 |ldn n a=>
  simp only[gI]at h;split at h
  ·rename_i k off hev
   split at h
   ·rename_i R hR;exact⟨_,_,h.2,fun s' hs=>by simp only[gI,hev,hs _ _ hR];exact⟨h.1,by simp⟩⟩
   ·exact h.elim
  ·rename_i l off hev;exact⟨_,_,h.2,fun s' hs=>by simp only[gI,hev];exact⟨h.1,by simp⟩⟩
  ·exact h.elim
 |bin op x y=>
  simp only[gI]at h;split at h
  ·rename_i a b ha hb
   obtain⟨r,hr,hb'⟩:=KV h;refine⟨r,[],hr,fun s' hs=> ?_⟩;simpa [gI,ha,hb]using hb'
  ·exact h.elim
 |binb n x y=>
  simp only[gI]at h;split at h
  ·rename_i a b ha hb;exact⟨_,_,h,fun s' hs=>by simp [gI,ha,hb]⟩
  ·exact h.elim
 |cat x y=>
  simp only[gI]at h;split at h
  ·rename_i a b ha hb;exact⟨_,_,h.2,fun s' hs=>by simp only[gI,ha,hb];exact⟨h.1,by simp⟩⟩
  ·exact h.elim
 |eqst n x y=>
  simp only[gI]at h;split at h
  ·rename_i a b ha hb;exact⟨_,_,h,fun s' hs=>by simp [gI,ha,hb]⟩
  ·exact h.elim
 |cvt b x=>
  simp only[gI]at h;split at h
  ·rename_i a ha;exact⟨_,_,h.2,fun s' hs=>by simp only[gI,ha];exact⟨h.1,by simp⟩⟩
  ·rename_i a ha;exact⟨_,_,h.2,fun s' hs=>by simp only[gI,ha];exact⟨h.1,by simp⟩⟩
  ·exact h.elim
 |shk n x=>
  simp only[gI]at h;split at h
  ·rename_i a ha;exact⟨_,_,h,fun s' hs=>by simp [gI,ha]⟩
  ·exact h.elim
 |bst x=>
  simp only[gI]at h;split at h
  ·rename_i m hm
   split at h
   ·rename_i l hl
    split at h
    ·rename_i zs hz;exact⟨_,_,h,fun s' hs=>by simp only[gI,AF hs hm,E6 hs hl,hz];simp⟩
    ·exact h.elim
   ·exact h.elim
  ·exact h.elim
 |not x=>
  simp only[gI]at h;split at h
  ·rename_i a ha;exact⟨_,_,h,fun s' hs=>by simp [gI,ha]⟩
  ·exact h.elim
 |neg x=>
  simp only[gI]at h;split at h
  ·rename_i a ha;exact⟨_,_,h,fun s' hs=>by simp [gI,ha]⟩
  ·exact h.elim
 |make e b z l c=>
  simp only[gI]at h;split at h
  ·rename_i a b' ha hb;exact⟨_,_,h.2,fun s' hs=>by simp only[gI,ha,hb];exact⟨h.1,by simp⟩⟩
  ·exact h.elim
 |slc e x lo hi=>
  simp only[gI]at h;split at h
  ·rename_i k off n hev
   split at h
   ·rename_i l hb R hl hh hR;exact⟨_,_,h.2.2,fun s' hs=>by simp only[gI,hev,hl,hh,hs _ _ hR];exact⟨h.1,h.2.1,by simp⟩⟩
   ·exact h.elim
  ·rename_i n cs hev
   split at h
   ·rename_i l hb hl hh;exact⟨_,_,h.2,fun s' hs=>by simp only[gI,hev,hl,hh];exact⟨h.1,by simp⟩⟩
   ·exact h.elim
  ·rename_i hev
   split at h
   ·rename_i l hb hl hh;exact⟨_,_,h.2,fun s' hs=>by simp only[gI,hev,hl,hh];exact⟨h.1,by simp⟩⟩
   ·exact h.elim
  ·exact h.elim
 |fld off x=>
  simp only[gI]at h;split at h
  ·rename_i k o hev;exact⟨_,_,h,fun s' hs=>by simp [gI,hev]⟩
  ·rename_i l o hev;exact⟨_,_,h,fun s' hs=>by simp [gI,hev]⟩
  ·exact h.elim
 |idx e x j=>
  simp only[gI]at h;split at h
  ·rename_i k off n j hev hj;exact⟨_,_,h.2,fun s' hs=>by simp only[gI,hev,hj];exact⟨h.1,by simp⟩⟩
  ·rename_i n l j hev hj;exact⟨_,_,h.2,fun s' hs=>by simp only[gI,hev,hj];exact⟨h.1,by simp⟩⟩
  ·rename_i k j0 j hev hj
   split at h
   ·rename_i R hR
    split at h
    ·rename_i n l hc;exact⟨_,_,h.2,fun s' hs=>by simp only[gI,hev,hj,hs _ _ hR,hc];exact⟨h.1,by simp⟩⟩
    ·exact h.elim
   ·exact h.elim
  ·exact h.elim
 |ext j x=>
  simp only[gI]at h;split at h
  ·rename_i l hev
   split at h
   ·rename_i y hy;exact⟨_,_,h,fun s' hs=>by simp [gI,hev,hy]⟩
   ·exact h.elim
  ·exact h.elim
 |call f args=>
  simp only[gI]at h;rcases h with ⟨ds,res,σ1,h1,h2,h3,h4⟩|⟨M,σv,ds,res,h1,h2,h3,h4,h5,h6,h7,h8⟩
  ·exact⟨_,_,h4,fun s' hs=>.inl ⟨ds,res,σ1,B2 hs h1,h2,h3,rfl,rfl⟩⟩
  ·refine⟨_,_,h8,fun s' hs=>.inr ⟨M,σv,ds,res,h1,H4 hs h2, ?_,h4,h5,h6,h7,rfl,rfl⟩⟩
   rw[← h3];refine List.map_congr_left fun k hk=> ?_
   obtain⟨i,hi⟩:=List.getElem?_of_mem hk;have hx:σv[i]? =some (s k):=by rw[← h3,List.getElem?_map,hi];rfl
   obtain⟨R,e,_⟩:=oc h4 hx;rw[e,hs k R e]
 |mkc f l=>exact⟨_,_,h,fun s' hs=>⟨rfl,rfl⟩⟩
 |cvl x args=>
  simp only[gI]at h;split at h
  ·rename_i f l hev
   obtain⟨h0,ds,res,σ1,h1,h2,h3,h4⟩:=h;exact⟨_,_,h4,fun s' hs=>by simp only[gI,hev];exact⟨h0,ds,res,σ1,B2 hs h1,h2,h3,rfl,rfl⟩⟩
  ·exact h.elim
 |app e b z x y=>
  simp only[gI]at h;split at h
  ·rename_i hev
   split at h
   ·rename_i m hm
    split at h
    ·rename_i l hl;exact⟨_,_,h.2,fun s' hs=>by simp only[gI,hev,AF hs hm,E6 hs hl];exact⟨h.1,by simp⟩⟩
    ·exact h.elim
   ·exact h.elim
  ·exact h.elim
 |aix e n x i=>
  simp only[gI]at h;split at h
  ·rename_i k o j h1 h2;exact⟨_,_,h.2,fun s' hs=>by simp only[gI,h1,h2];exact⟨h.1,by simp⟩⟩
  ·rename_i l o j h1 h2;exact⟨_,_,h.2,fun s' hs=>by simp only[gI,h1,h2];exact⟨h.1,by simp⟩⟩
  ·exact h.elim
 |ixa n x i=>
  simp only[gI]at h;split at h
  ·rename_i l j h1 h2
   split at h
   ·rename_i y hy;exact⟨_,_,h.2,fun s' hs=>by simp only[gI,h1,h2,hy];exact⟨h.1,by simp⟩⟩
   ·exact h.elim
  ·exact h.elim
 |nck x=>
  simp only[gI]at h;split at h
  ·rename_i k o h1;exact⟨_,_,h,fun s' hs=>by simp [gI,h1]⟩
  ·rename_i k o h1;exact⟨_,_,h,fun s' hs=>by simp [gI,h1]⟩
  ·rename_i k j o h1;exact⟨_,_,h,fun s' hs=>by simp [gI,h1]⟩
  ·exact h.elim
 |fdv off n ag x=>
  simp only[gI]at h;split at h
  ·rename_i l h1
   split at h
   ·rename_i h2;exact⟨_,_,h.2,fun s' hs=>by simp [gI,h1,h2,h.1]⟩
   ·rename_i h2
    split at h
    ·rename_i y hy;exact⟨_,_,h,fun s' hs=>by simp [gI,h1,h2,hy]⟩
    ·exact h.elim
  ·exact h.elim
 |isn neg x y=>
  simp only[gI]at h;split at h
  ·rename_i h1 h2;exact⟨_,_,h,fun s' hs=>by simp [gI,h1,h2]⟩
  ·rename_i h1 h2;exact⟨_,_,h.2,fun s' hs=>by simp [gI,h1,h2,h.1]⟩
  ·exact h.elim
 |eqs neg n x y=>
  simp only[gI]at h;split at h
  ·rename_i l m h1 h2
   split at h
   ·rename_i a b ha hb;exact⟨_,_,h.2,fun s' hs=>by simp [gI,h1,h2,ha,hb,h.1]⟩
   ·exact h.elim
  ·exact h.elim
 |len x=>
  simp only[gI]at h;split at h
  ·rename_i n hn;exact⟨_,_,h,fun s' hs=>by simp [gI,AF hs hn]⟩
  ·exact h.elim
 |lens x=>
  simp only[gI]at h;split at h
  ·rename_i b hb;exact⟨_,_,h,fun s' hs=>by simp [gI,hb]⟩
  ·exact h.elim
 |mnx m x y=>
  simp only[gI]at h;split at h
  ·rename_i a b ha hb;exact⟨_,_,h,fun s' hs=>by simp [gI,ha,hb]⟩
  ·exact h.elim
 |_=>exact h.elim
theorem kG{o:Oper}{i:I}(hc:cOp P o.op=some i){K:AV→Sto→Prop}(h:gI P s ev k0 i K):
  ∃r news,K r news∧∀s':St,(∀k R,s k=some R→s' k=some R)→∀γ φ τ w (ρ:Operand→Value),Sim γ φ τ w→(∀k R,τ k=some R→s' k=some R)→(∀j,j<news.length→τ (k0+j)=none)→
   (∀X Y,cO X=some Y→X∈o.op.operands.toList→Rel w γ φ τ (ev Y) (ρ X))→Fix ρ→Exec P (GPost γ φ τ w k0 r news) ((execOp ρ o).run P w):=by
 obtain⟨r,n,hK,hup⟩:=NH h;refine⟨r,n,hK,fun s' hs=> ?_⟩;obtain⟨r',n',⟨rfl,rfl⟩,hsound⟩:=CC hc (hup s' hs);exact hsound
end
end Go.Lift
namespace Go.Lift
open Go.RowKit
theorem x5(acc:List Nat):∀(es:List Nat) (s i:Nat),(es.foldl (fun s e=>s||| 2 ^ e||| acc.getD e 0) s).testBit i=true→s.testBit i=true∨∃e∈es,e=i∨(acc.getD e 0).testBit i=true
 | [],s,i,h=>.inl h
 |e :: es,s,i,h=>by
  rcases x5 acc es _ i h with h|⟨e',he,h⟩
  ·simp only[Nat.testBit_or,Bool.or_eq_true,Nat.testBit_two_pow,decide_eq_true_eq]at h
   rcases h with (h|h)|h
   ·exact .inl h
   ·exact .inr ⟨e,by simp,.inl h⟩
   ·exact .inr ⟨e,by simp,.inr h⟩
  ·exact .inr ⟨e',by simp [he],h⟩
theorem x4:∀(l:List Oper) (acc:List Nat),(∀e,e<acc.length→(aN acc l)[e]? =acc[e]?)∧
  ∀(d:Nat) (o:Oper),l[d]? =some o→∀i,((aN acc l).getD (acc.length+d) 0).testBit i=true→i∈edg o∨∃e∈edg o,e<acc.length+d∧((aN acc l).getD e 0).testBit i=true
 | [],acc=>by simp [aN]
 |o :: l,acc=>by
  obtain⟨h1,h2⟩:=x4 l (acc++[Do acc (edg o)]);have hold:∀e,e<acc.length→(aN acc (o :: l))[e]? =acc[e]? :=by
   intro e he;simp only[aN];rw[h1 e (by simp;omega),List.getElem?_append_left he]
  refine⟨hold,fun d o' hd i hi=> ?_⟩;cases d with
  |zero=>
   simp at hd;subst hd;have hme:(aN acc (o :: l)).getD (acc.length+0) 0=Do acc (edg o):=by
    simp only[aN,Nat.add_zero];rw[zq,h1 acc.length (by simp)]
    simp
   rw[hme]at hi;rcases x5 acc (edg o) 0 i hi with h|⟨e,he,h⟩
   ·simp at h
   ·rcases h with rfl|h
    ·exact .inl he
    ·refine .inr ⟨e,he, ?_⟩
     by_cases hlt:e<acc.length
     ·refine⟨by omega, ?_⟩
      rw[zq,hold e hlt, ← zq];exact h
     ·rw[zq,List.getElem?_eq_none (by omega)]at h
      simp at h
  |succ d=>
   simp only[aN]at hi ⊢;have:=h2 d o' (by simpa using hd) i (by simp only[List.length_append,List.length_singleton];rw[show acc.length+1+d=acc.length+(d+1)by omega];exact hi);simp only[List.length_append,List.length_singleton]at this
   rwa [show acc.length+1+d=acc.length+(d+1)by omega]at this
def Closed(ops:List Oper)(listed:Array Bool):Prop:=∀(j:Nat) (o:Oper),ops[j]? =some o→listed.getD j false=true→∀e∈edg o,listed.getD e false=true
theorem bt{ops:List Oper}{listed:Array Bool}(hc:Closed ops listed){o:Oper}{j:Nat}(hj:ops[j]? =some o)(he:∀e∈edg o,listed.getD e false=true){i:Nat}(hi:((aN [] ops).getD j 0).testBit i=true):listed.getD i false=true:=by
 induction j using Nat.strongRecOn generalizing o with
 |_ j ih=>
  have:=(x4 ops []).2 j o hj i (by simpa using hi);rcases this with h|⟨e,h1,h2,h3⟩
  ·exact he i h
  ·simp only[zn,Nat.zero_add]at h2
   have hle:e<ops.length:=by
    have:=(List.getElem?_eq_some_iff.1 hj).1;omega
   exact ih e h2 (zg hle) (fun e' he'=>hc e _ (zg hle) (he e h1) e' he') h3
def aU(ops:List Oper)(R:Nat→AV)(env:List AV):Nat→List AV
 |0=>env
 |i+1=>put (aU ops R env i) (bv ops i) (R i)
def stAt(N:Nat→Sto)(σ:Sto):Nat→Sto
 |0=>σ
 |i+1=>stAt N σ i++N i
def Step1(P:Program)(all:List Oper)(o:Oper)(env:List AV)(σ:Sto)(r:AV)(news:Sto)(wt:Bool):Prop:=
 (∃g,cG all o.guard=some g∧gd g env (wt=true) (wt=false))∧
 (wt=false→r=.und∧news=[])∧
 (wt=true→∀s':St,(∀k R,at_ σ k=some R→s' k=some R)→∀γ φ τ w (ρ:Operand→Value),Sim γ φ τ w→(∀k R,τ k=some R→s' k=some R)→(∀j,j<news.length→τ (σ.length+j)=none)→
   (∀X Y,cO X=some Y→X∈o.op.operands.toList→Rel w γ φ τ (O.ev env Y) (ρ X))→Fix ρ→Exec P (GPost γ φ τ w σ.length r news) ((execOp ρ o).run P w))
theorem je{P:Program}{all:List Oper}:∀(l:List Oper) (l':List Ins),bw P all l=some l'→∀{env:List AV} {σ:Sto} {K:List AV→Sto→Prop},runG P l' env σ K→
  ∃(R:Nat→AV) (N:Nat→Sto) (W:Nat→Bool),K (aU l R env l.length) (stAt N σ l.length)∧∀(i:Nat) (o:Oper),l[i]? =some o→Step1 P all o (aU l R env i) (stAt N σ i) (R i) (N i) (W i)
 | [],l',hc,env,σ,K,h=>by
  simp only[bw,zj]at hc;subst hc;exact⟨fun _=>.und,fun _=>[],fun _=>false,h,fun i o hi=>by simp at hi⟩
 |o :: l,l',hc,env,σ,K,h=>by
  simp only[bw]at hc;split at hc
  ·rename_i ins m hi hm
   simp only[zj]at hc;subst hc;unfold cIns at hi;split at hi
   ·rename_i i g hop hg
    simp only[zj]at hi;subst hi;simp only[runG]at h;have shift:∀(r:AV) (n:Sto) (R:Nat→AV) (N:Nat→Sto),(∀j,aU (o :: l) (fun i=>match i with|0=>r|i+1=>R i) env (j+1)=aU l R (put env o.dst r) j)∧(∀j,stAt (fun i=>match i with|0=>n|i+1=>N i) σ (j+1)=stAt N (σ++n) j):=by
     intro r n R N;refine⟨fun j=> ?_,fun j=> ?_⟩
     ·induction j with
      |zero=>rfl
      |succ j ih=>rw[aU,ih];rfl
     ·induction j with
      |zero=>rfl
      |succ j ih=>rw[stAt,ih];rfl
    have done:∀(r:AV) (n:Sto) (wt:Bool),Step1 P all o env σ r n wt→runG P m (put env o.dst r) (σ++n) K→∃(R:Nat→AV) (N:Nat→Sto) (W:Nat→Bool),K (aU (o :: l) R env (o :: l).length) (stAt N σ (o :: l).length)∧
      ∀(i:Nat) (o':Oper),(o :: l)[i]? =some o'→Step1 P all o' (aU (o :: l) R env i) (stAt N σ i) (R i) (N i) (W i):=by
     intro r n wt h1 h2;obtain⟨R,N,W,hK,hst⟩:=je l m hm h2;obtain⟨he,hs⟩:=shift r n R N;refine⟨fun i=>match i with|0=>r|i+1=>R i,fun i=>match i with|0=>n|i+1=>N i,fun i=>match i with|0=>wt|i+1=>W i, ?_,fun i o' hi=> ?_⟩
     ·rw[Zl,he,hs]
      exact hK
     ·cases i with
      |zero=>simp at hi;subst hi;exact h1
      |succ i=>rw[he,hs];exact hst i o' (by simpa using hi)
    have hcase:(gd g env True False∧gI P (at_ σ) (O.ev env) σ.length i (fun r news=>runG P m (put env o.dst r) (σ++news) K))∨(gd g env False True∧runG P m (put env o.dst .und) σ K):=by
     cases g with
     |none=>exact .inl ⟨trivial,h⟩
     |some tb=>
      obtain⟨t,want⟩:=tb;simp only[gd]at h ⊢;split at h
      ·split at h
       ·rename_i hb;exact .inl ⟨by simp [hb],h⟩
       ·rename_i hb;exact .inr ⟨by simp [hb],h⟩
      ·exact .inr ⟨trivial,h⟩
      ·exact h.elim
    have gdmono:∀{A B A' B':Prop},(A→A')→(B→B')→gd g env A B→gd g env A' B':=by
     intro A B A' B' ha hb hgd;cases g with
     |none=>exact ha hgd
     |some tb=>
      obtain⟨t,want⟩:=tb;simp only[gd]at hgd ⊢;split at hgd
      ·split at hgd
       ·rename_i hx;simp only[hx,if_true];exact ha hgd
       ·rename_i hx;simp only[hx,if_false];exact hb hgd
      ·exact hb hgd
      ·exact hgd.elim
    rcases hcase with ⟨hgd,h⟩|⟨hgd,h⟩
    ·obtain⟨r,news,hK,hup⟩:=kG hop h
     exact done r news true ⟨⟨g,hg,gdmono (fun _=>rfl) (fun h=>h.elim) hgd⟩,fun h=>(by cases h),fun _=>hup⟩ hK
    ·exact done .und [] false ⟨⟨g,hg,gdmono (fun h=>h.elim) (fun _=>rfl) hgd⟩,fun _=>⟨rfl,rfl⟩,fun h=>(by cases h)⟩ (by rw[List.append_nil];exact h)
   ·cases hi
  ·cases hc
end Go.Lift
namespace Go.Lift
open Go.RowKit
section
variable {ops : List Oper} {m : Nat} {R : Nat → AV} {N : Nat → Sto} {env : List AV} {σ : Sto}
def bg(ops:List Oper)(m t:Nat):Option Nat:=(List.range m).find? fun j=>bv ops j==some t
theorem aS{t j:Nat}(h:bg ops m t=some j):j<m∧bv ops j=some t:=by
 have h1:=List.find?_some h;have h2:=List.mem_of_find?_eq_some h;simp at h1 h2;exact⟨h2,h1⟩
theorem ku{t:Nat}(h:bg ops m t=none):∀j,j<m→bv ops j≠some t:=by
 intro j hj;have:=List.find?_eq_none.1 h j (by simp [hj]);simpa using this
def Once(ops:List Oper)(m:Nat):Prop:=∀i j t,i<m→j<m→bv ops i=some t→bv ops j=some t→i=j
theorem dn(i:Nat):(aU ops R env i).length=env.length:=by
 induction i with
 |zero=>rfl
 |succ i ih=>
  rw[aU];unfold put;split<;>simp [ih]
theorem n8(ho:Once ops m):∀(i:Nat),i≤m→∀t,t<env.length→(aU ops R env i).getD t .any=match bg ops m t with
  |some j=>if j<i then R j else env.getD t .any
  |none=>env.getD t .any
 |0,_,t,ht=>by
  simp only[aU,Nat.not_lt_zero,if_false];split<;>rfl
 |i+1,hi,t,ht=>by
  have ih:=n8 ho i (by omega) t ht;rw[aU];cases hd:bv ops i with
  |none=>
   simp only[put];rw[ih];split
   ·rename_i j hj
    have:=aS hj;have hne:j≠i:=fun e=>by rw[e,hd]at this;cases this.2
    by_cases h:j<i
    ·rw[if_pos h,if_pos (by omega)]
    ·rw[if_neg h,if_neg (by omega)]
   ·rfl
  |some d=>
   simp only[put];by_cases e:d=t
   ·subst e
    have hw:bg ops m d=some i:=by
     cases hw:bg ops m d with
     |none=>exact absurd hd (ku hw i (by omega))
     |some j=>
      have:=aS hw;rw[ho j i d this.1 (by omega) this.2 hd]
    rw[hw];simp only[Nat.lt_succ_self,if_true];rw[zq,List.getElem?_set,if_pos rfl,if_pos (by rw[dn];exact ht)]
    rfl
   ·rw[zq,List.getElem?_set,if_neg e, ← zq,ih]
    split
    ·rename_i j hj
     have:=aS hj;have hne:j≠i:=fun e'=>by rw[e',hd]at this;exact e (by simpa using this.2)
     by_cases h:j<i
     ·rw[if_pos h,if_pos (by omega)]
     ·rw[if_neg h,if_neg (by omega)]
    ·rfl
def valX(ops:List Oper)(m:Nat)(R:Nat→AV)(env:List AV)(listed:Array Bool)(t:Nat):AV:=match bg ops m t with
 |some j=>if listed.getD j false=true then R j else .any
 |none=>env.getD t .any
theorem mQ(i d:Nat):∃l,stAt N σ (i+d)=stAt N σ i++l:=by
 induction d with
 |zero=>exact⟨[],by simp⟩
 |succ d ih=>
  obtain⟨l,hl⟩:=ih;exact⟨l++N (i+d),by rw[← Nat.add_assoc,stAt,hl,List.append_assoc]⟩
theorem E5{i j:Nat}(h:i≤j):(stAt N σ i).length≤(stAt N σ j).length:=by
 obtain⟨l,hl⟩:=mQ (N:=N) (σ:=σ) i (j-i);rw[show i+(j-i)=j by omega]at hl;rw[hl]
 simp
theorem GD{i:Nat}(h:i≤m):∀k Rt,at_ (stAt N σ i) k=some Rt→at_ (stAt N σ m) k=some Rt:=by
 intro k Rt hk;obtain⟨l,hl⟩:=mQ (N:=N) (σ:=σ) i (m-i);rw[show i+(m-i)=m by omega]at hl;rw[hl];simp only[at_]at hk ⊢;have:k<(stAt N σ i).length:=by
  by_cases hlt:k<(stAt N σ i).length
  ·exact hlt
  ·rw[List.getElem?_eq_none (by omega)]at hk;cases hk
 rw[List.getElem?_append_left this];exact hk
theorem LS{i:Nat}(h:i<m)(d:Nat)(hd:d<(N i).length):at_ (stAt N σ m) ((stAt N σ i).length+d)=((N i)[d]?).join:=by
 obtain⟨l,hl⟩:=mQ (N:=N) (σ:=σ) (i+1) (m-(i+1));rw[show i+1+(m-(i+1))=m by omega]at hl;rw[hl];simp only[at_,stAt];rw[List.getElem?_append_left (by simp;omega),List.getElem?_append_right (by omega)]
 congr 2
 omega
def stX(m:Nat)(N:Nat→Sto)(σ:Sto)(listed:Array Bool):St:=fun k=>
 if k<σ.length∨((List.range m).any fun j=>listed.getD j false&&decide ((stAt N σ j).length≤k)&&decide (k<(stAt N σ (j+1)).length))=true then at_ (stAt N σ m) k else none
theorem vU(listed:Array Bool):∀k Rt,stX m N σ listed k=some Rt→at_ (stAt N σ m) k=some Rt:=by
 intro k Rt h;unfold stX at h;split at h
 ·exact h
 ·cases h
theorem nm{listed:Array Bool}{k:Nat}:((List.range m).any fun j=>listed.getD j false&&decide ((stAt N σ j).length≤k)&&decide (k<(stAt N σ (j+1)).length))=true↔∃j,j<m∧listed.getD j false=true∧(stAt N σ j).length≤k∧k<(stAt N σ (j+1)).length:=by
 simp only[List.any_eq_true,List.mem_range,Bool.and_eq_true,decide_eq_true_eq]
 constructor
 ·rintro⟨j,h1,⟨h2,h3⟩,h4⟩;exact⟨j,h1,h2,h3,h4⟩
 ·rintro⟨j,h1,h2,h3,h4⟩;exact⟨j,h1,⟨h2,h3⟩,h4⟩
theorem s9{listed:Array Bool}{i:Nat}(hi:i<m)(hun:listed.getD i false=false)(d:Nat)(hd:d<(N i).length):stX m N σ listed ((stAt N σ i).length+d)=none:=by
 unfold stX;rw[if_neg];rintro (h|h)
 ·have:=E5 (N:=N) (σ:=σ) (Nat.zero_le i)
  simp only[stAt]at this;omega
 ·obtain⟨j,h1,h2,h3,h4⟩:=nm.1 h
  have hne:j≠i:=fun e=>by rw[e,hun]at h2;cases h2
  rcases Nat.lt_or_ge j i with hji|hji
  ·have:=E5 (N:=N) (σ:=σ) (show j+1≤i by omega)
   omega
  ·have h5:=E5 (N:=N) (σ:=σ) (show i+1≤j by omega)
   simp only[stAt,List.length_append]at h5;omega
theorem aj{listed:Array Bool}{i j:Nat}(hi:i<listed.size):(listed.setIfInBounds i true).getD j false=(decide (j=i)||listed.getD j false):=by
 rw[Array.getD_eq_getD_getElem?,Array.getElem?_setIfInBounds];by_cases e:i=j
 ·subst e;simp [hi]
 ·rw[if_neg e, ← Array.getD_eq_getD_getElem?]
  simp [Ne.symm e]
theorem s8{listed:Array Bool}{i:Nat}(hi:i<m)(hsz:i<listed.size):over (stX m N σ listed) (stAt N σ i).length (N i)=stX m N σ (listed.setIfInBounds i true):=by
 funext k
 unfold over;have hk1:(stAt N σ (i+1)).length=(stAt N σ i).length+(N i).length:=by simp [stAt]
 split
 ·rename_i h
  have h1:=LS (N:=N) (σ:=σ) hi (k-(stAt N σ i).length) (by omega);rw[show (stAt N σ i).length+(k-(stAt N σ i).length)=k by omega]at h1;unfold stX;rw[if_pos (.inr (nm.2 ⟨i,hi,by rw[aj hsz];simp,h.1,by omega⟩)),h1]
 ·rename_i h
  unfold stX;have:(k<σ.length∨((List.range m).any fun j=>listed.getD j false&&decide ((stAt N σ j).length≤k)&&decide (k<(stAt N σ (j+1)).length))=true)↔
    (k<σ.length∨((List.range m).any fun j=>(listed.setIfInBounds i true).getD j false&&decide ((stAt N σ j).length≤k)&&decide (k<(stAt N σ (j+1)).length))=true):=by
   rw[nm,nm];refine or_congr Iff.rfl ⟨fun⟨j,h1,h2,h3⟩=>⟨j,h1,by rw[aj hsz,h2];simp,h3⟩,fun⟨j,h1,h2,h3⟩=>⟨j,h1, ?_,h3⟩⟩;rw[aj hsz]at h2;simp only[Bool.or_eq_true,decide_eq_true_eq]at h2;rcases h2 with rfl|h2
   ·omega
   ·exact h2
  by_cases hc:(k<σ.length∨((List.range m).any fun j=>listed.getD j false&&decide ((stAt N σ j).length≤k)&&decide (k<(stAt N σ (j+1)).length))=true)
  ·rw[if_pos hc,if_pos (this.1 hc)]
  ·rw[if_neg hc,if_neg (fun h=>hc (this.2 h))]
theorem As{listed:Array Bool}(h:∀j,j<m→listed.getD j false=true):stX m N σ listed=at_ (stAt N σ m):=by
 funext k
 unfold stX;split
 ·rfl
 ·rename_i hc
  by_cases hk:k<(stAt N σ m).length
  ·exfalso
   apply hc;have hge:¬ k<σ.length:=fun h=>hc (.inl h)
   refine .inr (nm.2 ?_);have:∀n,n≤m→k<(stAt N σ n).length→∃j,j<m∧listed.getD j false=true∧(stAt N σ j).length≤k∧k<(stAt N σ (j+1)).length:=by
    intro n
    induction n with
    |zero=>intro _ h0;exact absurd h0 hge
    |succ n ih=>
     intro hn hlt;by_cases h':k<(stAt N σ n).length
     ·exact ih (by omega) h'
     ·exact⟨n,by omega,h n (by omega),by omega,hlt⟩
   exact this m (Nat.le_refl _) hk
  ·simp [at_,List.getElem?_eq_none (Nat.le_of_not_lt hk)]
theorem oh{listed:Array Bool}(h:∀j,j<m→listed.getD j false=false)(hσ:∀k,k<σ.length→at_ (stAt N σ m) k=at_ σ k):stX m N σ listed=at_ σ:=by
 funext k
 unfold stX;by_cases hk:k<σ.length
 ·rw[if_pos (.inl hk),hσ k hk]
 ·rw[if_neg]
  ·simp [at_,List.getElem?_eq_none (Nat.le_of_not_lt hk)]
  ·rintro (h'|h')
   ·exact hk h'
   ·obtain⟨j,h1,h2,_⟩:=nm.1 h'
    rw[h j h1]at h2;cases h2
end
end Go.Lift
namespace Go.Lift
open Go.RowKit
theorem bP{o:Oper}{e:Nat}:e∈edg o↔∃x∈o.after,Region.binds .any x=true∧x.on=e:=by
 unfold edg;simp only[List.mem_filterMap,Array.mem_toList_iff]
 constructor
 ·rintro⟨x,hx,h⟩
  split at h
  ·rename_i hb;exact⟨x,hx,hb,by simpa using h⟩
  ·cases h
 ·rintro⟨x,hx,hb,he⟩
  exact⟨x,hx,by rw[if_pos hb,he]⟩
theorem cE{ops:List Oper}{ms:List Nat}{m:Nat}(h:dB ops ms m=true){i:Nat}(hi:i<m):∃o,ops[i]? =some o∧(∀e∈edg o,e<i)∧∀j,j<m→wM ops ms i j o=true:=by
 have:=List.all_eq_true.1 h i (by simp [hi]);split at this
 ·rename_i o ho
  simp only[Bool.and_eq_true,List.all_eq_true,decide_eq_true_eq,List.mem_range]at this;exact⟨o,ho,this.1,this.2⟩
 ·cases this
theorem cL{ops:List Oper}{ms:List Nat}{m:Nat}(h:dB ops ms m=true):Once ops m:=by
 intro i j t hi hj h1 h2;obtain⟨o,ho,_,h3⟩:=cE h hi;have:=h3 j hj;unfold wM at this;rw[h2]at this;simp only[bv,ho,Option.bind_some]at h1;simp only[Bool.and_eq_true,h1,beq_self_eq_true,Bool.not_true,Bool.or_false,beq_iff_eq]at this;exact this.2
section
variable {P : Program} {ops : List Oper} {m : Nat} {R : Nat → AV} {N : Nat → Sto} {W : Nat → Bool} {env : List AV} {σ : Sto} {γe : Labels} {φ0 : Nat → Nat} {we : World} {σ0 : Sto}
structure HInv(ops:List Oper)(m nf:Nat)(R:Nat→AV)(N:Nat→Sto)(env:List AV)(σ:Sto)(γe:Labels)(φ0:Nat→Nat)(we:World)(σ0:Sto)(listed:Array Bool)(a:Act)(w:World):Prop where
 size:listed.size=ops.length
 tail:∀t,m≤t→t<nf→listed.getD t false=false
 closed:Closed ops listed
 st:∃γ φ,Kst γe we γ w∧Sim γ φ (stX m N σ listed) w∧a.tmps.size=env.length∧(∀t,t<env.length→Rel w γ φ (stX m N σ listed) (valX ops m R env listed t) (a.tmps.getD t undef))∧a.defers=[]∧
  ∀k Rt,at_ σ0 k=some Rt→Rt.g=false→Stay γe φ0 γ φ k∧∃R',stX m N σ listed k=some R'∧R'.g=false
theorem lQ{a:Act}{dst:Option Nat}{v:Value}{t:Nat}(ht:t<a.tmps.size):(a.put dst v).tmps.getD t undef=if dst=some t then v else a.tmps.getD t undef:=by
 cases dst with
 |none=>simp [Act.put]
 |some d=>
  simp only[Act.put,zj];rw[Array.getD_eq_getD_getElem?,Array.getElem?_setIfInBounds,Array.getD_eq_getD_getElem?];by_cases e:d=t
  ·subst e;simp [ht]
  ·rw[if_neg e,if_neg e]
theorem Exec.mono{P:Program}{Q Q':Value→World→Prop}{r:Result Next}(h:Exec P Q r)(hq:∀v w,Q v w→Q' v w):Exec P Q' r:=cw.Exec.mono h hq
theorem zz(hpre:dB ops (aN [] ops) m=true)(hst:∀(i:Nat) (o:Oper),i<m→ops[i]? =some o→Step1 P ops o (aU ops R env i) (stAt N σ i) (R i) (N i) (W i))
  {nf:Nat} {listed:Array Bool} {a:Act} {w:World} (hI:HInv ops m nf R N env σ γe φ0 we σ0 listed a w) {i:Nat} (him:i<m) (hr:i∈Region.ready .any ops.toArray listed):
  ∃o,ops[i]? =some o∧Region.wanted o (yielded ops.toArray a.tmps)=W i∧(W i=false→HInv ops m nf R N env σ γe φ0 we σ0 (listed.setIfInBounds i true) (a.put o.dst undef) w)∧
   (W i=true→Exec P (fun v w'=>HInv ops m nf R N env σ γe φ0 we σ0 (listed.setIfInBounds i true) (a.put o.dst v) w') ((execOp a.eval o).run P w)):=by
 obtain⟨hun,oi,hoi,hall⟩:=mem_ready.1 hr;have hunf:=getD_both hun;obtain⟨o,ho,hedge,hpre1⟩:=cE hpre him;have hoi':ops[i]? =some oi:=by simpa using hoi
 rw[ho]at hoi';obtain rfl:o=oi:=by simpa using hoi'
 have hone:=cL hpre;have hall':∀e∈edg o,listed.getD e false=true:=fun e he=>by
  obtain⟨x,hx,hb,rfl⟩:=bP.1 he;exact hall x hx hb
 have hlt:i<ops.length:=(List.getElem?_eq_some_iff.1 ho).1;have hsz:i<listed.size:=by rw[hI.size];exact hlt
 obtain⟨γ,φ,hK,hS,htl,hrel,hd,hfix⟩:=hI.st;obtain⟨⟨g,hg,hgd⟩,hskip,hexec⟩:=hst i o him ho;have hdst:bv ops i=o.dst:=by simp [bv,ho]
 have hslot:∀t,t∈aV ops o→Rel w γ φ (stX m N σ listed) ((aU ops R env i).getD t .any) (a.tmps.getD t undef):=by
  intro t ht;by_cases htlen:t<env.length
  ·rw[n8 hone i (by omega) t htlen]
   have hv:=hrel t htlen;unfold valX at hv;cases hw:bg ops m t with
   |none=>rw[hw]at hv;exact hv
   |some j=>
    rw[hw]at hv;have hws:=aS hw;have hp:=hpre1 j hws.1;unfold wM at hp;rw[hws.2]at hp;have hcont:(aV ops o).contains t=true:=by simpa using ht
    simp only[hcont,Bool.not_true,Bool.false_or,Bool.and_eq_true,decide_eq_true_eq]at hp;have hlj:listed.getD j false=true:=bt hI.closed ho hall' hp.1.2;simp only[hlj,if_true]at hv;simp only[hp.1.1,if_true];exact hv
  ·rw[zq,List.getElem?_eq_none (by rw[dn];omega)]
   simp [Rel]
 have hwant:Region.wanted o (yielded ops.toArray a.tmps)=W i:=by
  rcases t7 (ops:=ops.toArray) (a:=a) hg hgd (fun t want hgt=>hslot t (by
    subst hgt;unfold aV Cv;cases hgo:o.guard with
    |none=>rw[hgo]at hg;simp [cG]at hg
    |some jb=>
     obtain⟨j,b⟩:=jb;rw[hgo]at hg;simp only[cG]at hg;split at hg
     ·rename_i oj hoj
      split at hg
      ·rename_i t' ht'
       simp only[zj,Prod.mk.injEq]at hg;simp [hoj,ht',hg.1]
      ·cases hg
     ·cases hg))with ⟨h1,h2⟩|⟨h1,h2⟩
  ·rw[h1,h2]
  ·rw[h1,h2]
 have hnext:∀v w' γ' φ',Kst γ w γ' w'→Live w γ φ (stX m N σ listed) w' γ' φ' (over (stX m N σ listed) (stAt N σ i).length (N i))→Sim γ' φ' (over (stX m N σ listed) (stAt N σ i).length (N i)) w'→Rel w' γ' φ' (over (stX m N σ listed) (stAt N σ i).length (N i)) (R i) v→
   HInv ops m nf R N env σ γe φ0 we σ0 (listed.setIfInBounds i true) (a.put o.dst v) w':=by
  intro v w' γ' φ' hK' hL hS' hR';rw[s8 him hsz]at hL hS' hR';refine⟨by simp [hI.size],fun t h1 h2=> ?_,fun j oj hj hlj e he=> ?_,γ',φ',hK.trans hK',hS', ?_,fun t ht=> ?_, ?_,fun k Rt hk hgk=> ?_⟩
  ·rw[aj hsz,hI.tail t h1 h2]
   simp
   omega
  ·rw[aj hsz]at hlj ⊢
   simp only[Bool.or_eq_true,decide_eq_true_eq]at hlj ⊢;rcases hlj with rfl|hlj
   ·rw[ho]at hj
    obtain rfl:o=oj:=by simpa using hj
    exact .inr (hall' e he)
   ·exact .inr (hI.closed j oj hj hlj e he)
  ·cases o.dst<;>simp [Act.put,htl]
  ·rw[lQ (by rw[htl];exact ht)]
   by_cases hdt:o.dst=some t
   ·rw[if_pos hdt]
    have hw:bg ops m t=some i:=by
     cases hw:bg ops m t with
     |none=>exact absurd (by rw[hdst];exact hdt) (ku hw i him)
     |some j=>
      have hws:=aS hw;rw[hone j i t hws.1 him hws.2 (by rw[hdst];exact hdt)]
    unfold valX;rw[hw];simp only[aj hsz,decide_true,Bool.true_or,if_true];exact hR'
   ·rw[if_neg hdt]
    have hv:=Rel.mono hK' hL _ _ (hrel t ht);have:valX ops m R env (listed.setIfInBounds i true) t=valX ops m R env listed t:=by
     unfold valX;cases hw:bg ops m t with
     |none=>rfl
     |some j=>
      have hws:=aS hw;have hne:j≠i:=fun e=>by rw[e,hdst]at hws;exact hdt hws.2
      simp only[aj hsz,decide_eq_false hne,Bool.false_or]
    rw[this];exact hv
  ·cases o.dst<;>simpa [Act.put]using hd
  ·obtain⟨h1,R1,h2,h3⟩:=hfix k Rt hk hgk
   obtain⟨h4,R2,h5,_,h6,h7,_⟩:=hL k R1 h2;exact⟨h1.trans ⟨h4,h7⟩,R2,h5,goff h6 h3⟩
 refine⟨o,ho,hwant,fun hWi=> ?_,fun hWi=> ?_⟩
 ·obtain⟨h1,h2⟩:=hskip hWi
  refine hnext undef w γ φ (Kst.refl _ _) ?_ ?_ ?_
  ·rw[h2,fo];exact Live.refl _ _ _ _
  ·rw[h2,fo];exact hS
  ·rw[h1];simp [Rel]
 ·have hex:=hexec hWi (at_ (stAt N σ m)) (GD (Nat.le_of_lt him)) γ φ (stX m N σ listed) w a.eval hS (vU listed) (fun d hd'=>s9 him hunf d hd') (fun X Y hc hX=>by
   cases X with
   |tmp t=>
    simp only[cO,zj]at hc;subst hc;refine hslot t ?_;unfold aV;refine List.mem_append.2 (.inl (List.mem_filterMap.2 ⟨.tmp t,hX,rfl⟩))
   |const v=>
    simp only[cO,zj]at hc;subst hc;exact tB v
   |global g=>simp [cO]at hc
   |func f=>simp [cO]at hc) ⟨fun _=>rfl,fun _=>rfl⟩
  exact Exec.mono hex fun v w' hq=>by
   obtain⟨γ',φ',hK',hL,hS',hR'⟩:=hq;exact hnext v w' γ' φ' hK' hL hS' hR'
theorem qh{Q:Exit→Act→World→Prop}(hpre:dB ops (aN [] ops) m=true)(hst:∀(i:Nat) (o:Oper),i<m→ops[i]? =some o→Step1 P ops o (aU ops R env i) (stAt N σ i) (R i) (N i) (W i))
  {nf:Nat} {listed:Array Bool} {a:Act} {w:World} (hI:HInv ops m nf R N env σ γe φ0 we σ0 listed a w) {i:Nat} (him:i<m) (hr:i∈Region.ready .any ops.toArray listed):
  wpOp P ops.toArray Q i (HInv ops m nf R N env σ γe φ0 we σ0 (listed.setIfInBounds i true)) a w:=by
 obtain⟨o,ho,hw,h1,h2⟩:=zz hpre hst hI him hr;unfold wpOp;rw[show ops.toArray[i]? =some o by simpa using ho];simp only[];cases hWi:W i with
 |false=>
  rw[if_neg (by simp [hw,hWi])];exact h1 hWi
 |true=>
  rw[if_pos (by rw[hw,hWi])];exact .inl (Exec.upon (h2 hWi) fun v w' hq=>hq)
end
end Go.Lift
namespace Go.Lift
open Go.RowKit
section
variable {P : Program} {γe : Labels} {φ0 : Nat → Nat} {we : World} {σ0 : Sto}
theorem cN{all:List Oper}:∀(l:List Oper) (l':List Ins) (m:Nat),bw P all l=some l'→bw P all (l.take m)=some (l'.take m)∧bw P all (l.drop m)=some (l'.drop m)
 |l,l',0,h=>by simp [bw,h]
 | [],l',m+1,h=>by
  simp only[bw,zj]at h;subst h;simp [bw]
 |o :: l,l',m+1,h=>by
  simp only[bw]at h;split at h
  ·rename_i i r hi hr
   simp only[zj]at h;subst h;obtain⟨h1,h2⟩:=cN l r m hr;simp [bw,hi,h1,h2]
  ·cases h
def unl(m:Nat)(listed:Array Bool):Nat:=((List.range m).filter fun j=> !listed.getD j false).length
theorem mN{m i:Nat}{listed:Array Bool}(hi:i<m)(hsz:i<listed.size)(hun:listed.getD i false=false):unl m listed=unl m (listed.setIfInBounds i true)+1:=by
 unfold unl;have key:∀n,i<n→((List.range n).filter fun j=> !listed.getD j false).length=((List.range n).filter fun j=> !(listed.setIfInBounds i true).getD j false).length+1:=by
  intro n
  induction n with
  |zero=>intro h;omega
  |succ n ih=>
   intro h;rw[List.range_succ,List.filter_append,List.filter_append,List.length_append,List.length_append];by_cases e:n=i
   ·subst e
    have hsame:∀q,q≤n→((List.range q).filter fun j=> !listed.getD j false)=((List.range q).filter fun j=> !(listed.setIfInBounds n true).getD j false):=by
     intro q hq;apply List.filter_congr;intro j hj;have:j<q:=by simpa using hj
     rw[aj hsz,decide_eq_false (show ¬ j=n by omega)]
     simp
    rw[hsame n (Nat.le_refl _)];simp only[List.filter_cons,List.filter_nil,hun,aj hsz,decide_true,Bool.true_or,Bool.not_true,Bool.not_false,if_true,Bool.false_eq_true,if_false,Zl,zn]
   ·have h1:=ih (by omega)
    rw[h1];simp only[List.filter_cons,List.filter_nil,aj hsz,decide_eq_false e,Bool.false_or];split<;>simp<;>omega
 exact key m hi
theorem rK(n m j:Nat):(d9 n m).getD j false=(decide (j<n)&&decide (j<m)):=by
 unfold d9;rw[Array.getD_eq_getD_getElem?];simp only[List.getElem?_toArray,List.getElem?_map];by_cases h:j<n
 ·simp [h]
 ·simp [h]
theorem zM{ops:List Oper}{m:Nat}{R:Nat→AV}{N:Nat→Sto}{env:List AV}{σ:Sto}{Q:Exit→Act→World→Prop}(hpre:dB ops (aN [] ops) m=true)(hm:m≤ops.length)
  (hseq:Region.seqB .any ops.toArray (ops.length-m) m (d9 ops.length m)=true)
  (hend:∀a w,SR γe φ0 we σ0 (aU ops R env m) (stAt N σ m) a w→wpList P ops.toArray Q (ops.drop m) a w)
  (listed:Array Bool) (a:Act) (w:World) (hI:HInv ops m ops.length R N env σ γe φ0 we σ0 listed a w) (hf:unl m listed=0):wpAny P .any ops.toArray Q (0+(ops.length-m)) listed a w:=by
 have hall:∀j,j<m→listed.getD j false=true:=by
  intro j hj;have h0:=List.eq_nil_of_length_eq_zero hf;rw[List.filter_eq_nil_iff]at h0;have:=h0 j (by simp [hj]);simpa using this
 have hcan:listed=d9 ops.length m:=by
  apply Array.ext
  ·simp [d9,hI.size]
  ·intro i h1 h2
   have e1:listed[i]=listed.getD i false:=by simp [h1]
   have e2:(d9 ops.length m)[i]=(d9 ops.length m).getD i false:=by simp [h2]
   rw[e1,e2,rK];have hin:i<ops.length:=by rw[← hI.size];exact h1
   by_cases hi:i<m
   ·rw[hall i hi];simp [hin,hi]
   ·rw[hI.tail i (by omega) hin];simp [hi]
 obtain⟨γ,φ,hK,hS,htl,hrel,hd,hfix⟩:=hI.st;rw[As hall]at hS hrel hfix;have hSR:SR γe φ0 we σ0 (aU ops R env m) (stAt N σ m) a w:=by
  refine⟨γ,φ,hK,hS,RelL.of_get (by simp [dn,htl]) fun t x hx=> ?_,hd,hfix⟩;have ht:t<env.length:=by
   have:=(List.getElem?_eq_some_iff.1 hx).1
   rwa [dn]at this
  have hv:=hrel t ht;have he:=n8 (cL hpre) (R:=R) (env:=env) m (Nat.le_refl _) t ht;rw[zq,hx,Option.getD_some]at he;refine⟨a.tmps.getD t undef, ?_, ?_⟩
  ·simp [show t<a.tmps.size by omega]
  ·rw[he]
   unfold valX at hv;cases hw:bg ops m t with
   |none=>rw[hw]at hv;exact hv
   |some j=>
    rw[hw]at hv;have hws:=aS hw;simp only[hall j hws.1,if_true]at hv;simp only[hws.1,if_true];exact hv
 have hl:(ops.drop m).length=ops.length-m:=by simp
 rw[Nat.zero_add, ← hl];refine wpAny_of_seq (ops.drop m) m listed a w (fun j=>by simp [List.getElem?_drop]) (by rw[hl,hcan];exact hseq) (hend a w hSR)
theorem CN{ops:List Oper}{m:Nat}{R:Nat→AV}{N:Nat→Sto}{W:Nat→Bool}{env:List AV}{σ:Sto}{Q:Exit→Act→World→Prop}(hpre:dB ops (aN [] ops) m=true)(hm:m≤ops.length)
  (hfull:∀t,m≤t→t<ops.length→fullB (aN [] ops) t=true) (hseq:Region.seqB .any ops.toArray (ops.length-m) m (d9 ops.length m)=true)
  (hst:∀(i:Nat) (o:Oper),i<m→ops[i]? =some o→Step1 P ops o (aU ops R env i) (stAt N σ i) (R i) (N i) (W i))
  (hend:∀a w,SR γe φ0 we σ0 (aU ops R env m) (stAt N σ m) a w→wpList P ops.toArray Q (ops.drop m) a w):
  ∀(f:Nat) (listed:Array Bool) (a:Act) (w:World),HInv ops m ops.length R N env σ γe φ0 we σ0 listed a w→unl m listed=f→wpAny P .any ops.toArray Q (f+(ops.length-m)) listed a w
 |0,listed,a,w,hI,hf=>zM hpre hm hseq hend listed a w hI hf
 |f+1,listed,a,w,hI,hf=>by
  have hex:∃j,j<m∧listed.getD j false=false:=by
   cases hfl:(List.range m).filter fun j=> !listed.getD j false with
   |nil=>unfold unl at hf;rw[hfl]at hf;simp at hf
   |cons j l=>
    have:j∈(List.range m).filter fun j=> !listed.getD j false:=by rw[hfl];simp
    simp at this;exact⟨j,this.1,by simpa using this.2⟩
  have hready:∃i,i∈Region.ready .any ops.toArray listed:=by
   obtain⟨j,hj,hjf⟩:=hex
   induction j using Nat.strongRecOn with
   |_ j ih=>
    obtain⟨o,ho,hedge,_⟩:=cE hpre hj;by_cases hall:∀e∈edg o,listed.getD e false=true
    ·refine⟨j,mem_ready.2 ⟨getD_in (by rw[hI.size];omega) hjf,o,by simpa using ho,fun e he hb=>hall _ (bP.2 ⟨e,he,hb,rfl⟩)⟩⟩
    ·have⟨e,he,hne⟩:∃e,e∈edg o∧listed.getD e false=false:=by
      false_or_by_contra
      rename_i hc;apply hall;intro e he;cases hb:listed.getD e false with
      |true=>rfl
      |false=>exact absurd ⟨e,he,hb⟩ hc
     exact ih e (hedge e he) (by have:=hedge e he;omega) hne
  have hhead:∀i,i∈Region.ready .any ops.toArray listed→i<m:=by
   intro i hi;obtain⟨hun,oi,hoi,hall⟩:=mem_ready.1 hi;rcases Nat.lt_or_ge i m with h|h
   ·exact h
   ·exfalso
    have hoi':ops[i]? =some oi:=by simpa using hoi
    have hlt:i<ops.length:=(List.getElem?_eq_some_iff.1 hoi').1;obtain⟨j,hj,hjf⟩:=hex;have hb:=List.all_eq_true.1 (hfull i h hlt) j (by simp;omega);have:=bt hI.closed hoi' (fun e he=>by
     obtain⟨x,hx,hb,rfl⟩:=bP.1 he;exact hall x hx hb) hb
    rw[hjf]at this;cases this
  rw[show f+1+(ops.length-m)=(f+(ops.length-m))+1 by omega];refine⟨fun h0=> ?_,fun i hi=> ?_⟩
  ·obtain⟨i,hi⟩:=hready
   rw[h0]at hi;cases hi
  ·have him:=hhead i hi
   obtain⟨hun,oi,hoi,_⟩:=mem_ready.1 hi;have hoi':ops[i]? =some oi:=by simpa using hoi
   have hlt:i<ops.length:=(List.getElem?_eq_some_iff.1 hoi').1;refine wpOp_mono (fun a' w' hI'=>CN hpre hm hfull hseq hst hend f _ a' w' hI' ?_) (qh (Q:=Q) hpre hst hI him hi);have:=mN him (by rw[hI.size];exact hlt) (getD_both hun);omega
theorem Step1.congr{all:List Oper}{o:Oper}{env env':List AV}{s:Sto}{r:AV}{news:Sto}{wt:Bool}(h:Step1 P all o env s r news wt)(he:∀t,t∈aV all o→env'.getD t .any=env.getD t .any):Step1 P all o env' s r news wt:=by
 obtain⟨⟨g,hg,hgd⟩,h2,h3⟩:=h;refine⟨⟨g,hg, ?_⟩,h2,fun hw s' hs γ φ τ w ρ hS hsub hdead hr hf=>h3 hw s' hs γ φ τ w ρ hS hsub hdead (fun X Y hc hX=> ?_) hf⟩
 ·cases g with
  |none=>exact hgd
  |some tb=>
   obtain⟨t,b⟩:=tb;simp only[gd]at hgd ⊢;rw[he t]
   ·exact hgd
   ·unfold aV Cv
    cases hgo:o.guard with
    |none=>rw[hgo]at hg;simp [cG]at hg
    |some jb=>
     obtain⟨j,b'⟩:=jb;rw[hgo]at hg;simp only[cG]at hg;split at hg
     ·rename_i oj hoj
      split at hg
      ·rename_i t' ht'
       simp only[zj,Prod.mk.injEq]at hg;simp [hoj,ht',hg.1]
      ·cases hg
     ·cases hg
 ·have:=hr X Y hc hX
  cases X with
  |tmp t=>
   simp only[cO,zj]at hc;subst hc;simp only[O.ev]at this ⊢
   rwa [he t]at this
   unfold aV;exact List.mem_append.2 (.inl (List.mem_filterMap.2 ⟨.tmp t,hX,rfl⟩))
  |const v=>
   simp only[cO,zm]at hc;obtain⟨y,_,rfl⟩:=hc;exact this
  |global g=>simp [cO]at hc
  |func f=>simp [cO]at hc
def evF(e:List AV)(o:Oper):AV:=match o.op with
 | .move x=>match cO x with
  |some y=>O.ev e y
  |none=>.any
 | .assign x=>match cO x with
  |some y=>O.ev e y
  |none=>.any
 |_=>.any
def flE:List Oper→List AV→List AV
 | [],e=>e
 |o :: q,e=>flE q (put e o.dst (evF e o))
theorem om{P:Program}{K:List AV→Sto→Prop}:∀(A B:List Ins) (e:List AV) (s:Sto),runG P (A++B) e s K=runG P A e s fun e s=>runG P B e s K
 | [],B,e,s=>rfl
 |i :: A,B,e,s=>by
  simp only[List.cons_append,runG]
  congr 1
  ·congr 1
   funext r news
   exact om A B _ _
  ·exact om A B _ _
theorem jh{o:Oper}(h:qC o=true):(∃x,o.op=.move x∨o.op=.assign x)∧o.guard=none∧∃d,o.dst=some d:=by
 unfold qC at h;simp only[Bool.and_eq_true,Option.isNone_iff_eq_none,Option.isSome_iff_exists]at h;obtain⟨⟨h1,h2⟩,h3⟩:=h;refine⟨?_,h2,h3⟩;split at h1
 ·rename_i x hx;exact⟨x,.inl hx⟩
 ·rename_i x hx;exact⟨x,.inr hx⟩
 ·cases h1
theorem tl{o:Oper}{x:Operand}(h:o.op=.move x∨o.op=.assign x){y:O}(hy:cO x=some y)(e:List AV):evF e o=O.ev e y:=by
 unfold evF;rcases h with h|h<;>simp only[h,hy]
theorem runF{P:Program}{all:List Oper}{K:List AV→Sto→Prop}:∀(q:List Oper) (B:List Ins),bw P all q=some B→(∀o∈q,qC o=true)→∀(e:List AV) (s:Sto),runG P B e s K→K (flE q e) s
 | [],B,hc,_,e,s,h=>by
  simp only[bw,zj]at hc;subst hc;exact h
 |o :: q,B,hc,hm,e,s,h=>by
  simp only[bw]at hc;split at hc
  ·rename_i i r hi hr
   simp only[zj]at hc;subst hc;obtain⟨⟨x,hx⟩,hg,d,hd⟩:=jh (hm o (by simp));unfold cIns at hi;split at hi
   ·rename_i op g hop hgd
    simp only[zj]at hi;subst hi;rw[hg]at hgd;simp only[cG,zj]at hgd;subst hgd;have hop':∃y,cO x=some y∧op=.mv y:=by
     rcases hx with hx|hx<;>simp only[hx,cOp,zm]at hop<;>(obtain⟨y,hy,rfl⟩:=hop;exact⟨y,hy,rfl⟩)
    obtain⟨y,hy,rfl⟩:=hop';simp only[runG,gd,gI,List.append_nil]at h;rw[← tl hx hy]at h;exact runF q r hr (fun o ho=>hm o (by simp [ho])) _ s h
   ·cases hi
  ·cases hc
theorem yQ{e:List AV}{dst:Option Nat}{r:AV}{t:Nat}(ht:t<e.length):(put e dst r).getD t .any=if dst=some t then r else e.getD t .any:=by
 cases dst with
 |none=>simp [put]
 |some d=>
  simp only[put,zj,zq,List.getElem?_set];by_cases h:d=t
  ·subst h;simp [ht]
  ·simp [h]
theorem q7{e:List AV}{dst:Option Nat}{r:AV}:(put e dst r).length=e.length:=by cases dst<;>simp [put]
theorem AX:∀(q:List Oper) (e:List AV),(flE q e).length=e.length
 | [],_=>rfl
 |o :: q,e=>by rw[flE,AX q,q7]
theorem DH:∀(q:List Oper) (e:List AV) (t:Nat),t<e.length→(∀o∈q,o.dst≠some t)→(flE q e).getD t .any=e.getD t .any
 | [],_,_,_,_=>rfl
 |o :: q,e,t,ht,h=>by
  rw[flE,DH q _ t (by rw[q7];exact ht) (fun o' ho=>h o' (by simp [ho])),yQ ht,if_neg (h o (by simp))]
theorem KD{o o':Oper}{e:List AV}{r:AV}{all:List Oper}(hm:qC o=true)(h:∀d,o'.dst=some d→d∉aV all o):evF (put e o'.dst r) o=evF e o:=by
 obtain⟨⟨x,hx⟩,_⟩:=jh hm;cases hy:cO x with
 |none=>unfold evF;rcases hx with hx|hx<;>simp only[hx,hy]
 |some y=>
  rw[tl hx hy,tl hx hy];cases x with
  |tmp t=>
   simp only[cO,zj]at hy;subst hy;simp only[O.ev];cases hd:o'.dst with
   |none=>rfl
   |some d=>
    have hne:d≠t:=fun e=>h d hd (by
     subst e;unfold aV;refine List.mem_append.2 (.inl (List.mem_filterMap.2 ⟨.tmp d, ?_,rfl⟩));rcases hx with hx|hx<;>simp [hx,Op.operands])
    simp [put,zq,List.getElem?_set,hne]
  |const v=>
   simp only[cO,zm]at hy;obtain⟨z,_,rfl⟩:=hy
   rfl
  |global g=>simp [cO]at hy
  |func f=>simp [cO]at hy
theorem EF{all:List Oper}:∀(q:List Oper) (e:List AV) (o:Oper) (t:Nat),t<e.length→(∀o∈q,qC o=true)→q.Pairwise (fun o o'=>∀d,o.dst=some d→o'.dst≠some d)→(∀o∈q,∀o'∈q,∀d,o'.dst=some d→d∉aV all o)→
  o∈q→o.dst=some t→(flE q e).getD t .any=evF e o
 | [],_,_,_,_,_,_,_,ho,_=>by simp at ho
 |o1 :: q,e,o,t,ht,hm,hp,hr,ho,hd=>by
  rw[flE];rw[List.pairwise_cons]at hp;rcases List.mem_cons.1 ho with rfl|ho
  ·rw[DH q _ t (by rw[q7];exact ht) (fun o' ho'=>hp.1 o' ho' t hd),yQ ht,if_pos hd]
  ·rw[EF q _ o t (by rw[q7];exact ht) (fun o ho=>hm o (by simp [ho])) hp.2 (fun o ho o' ho'=>hr o (by simp [ho]) o' (by simp [ho'])) ho hd]
   exact KD (hm o (by simp [ho])) (fun d hd'=>hr o (by simp [ho]) o1 (by simp) d hd')
def flAt(ops:List Oper)(nf t:Nat):Option Nat:=(List.range ops.length).find? fun f=>decide (nf≤f)&&bv ops f==some t
theorem j4{ops:List Oper}{nf t f:Nat}(h:flAt ops nf t=some f):nf≤f∧f<ops.length∧bv ops f=some t:=by
 have h1:=List.find?_some h;have h2:=List.mem_of_find?_eq_some h;simp at h1 h2;exact⟨h1.1,h2,h1.2⟩
theorem zI{ops:List Oper}{nf t:Nat}(h:flAt ops nf t=none):∀f,nf≤f→f<ops.length→bv ops f≠some t:=by
 intro f h1 h2 h3;have:=List.find?_eq_none.1 h f (by simp [h2]);simp [h1,h3]at this
def fv(ops:List Oper)(nf:Nat)(E:List AV)(L:Nat→Bool)(t:Nat)(x:AV):AV:=match flAt ops nf t with
 |some f=>if L f=true then (match ops[f]? with
  |some o=>evF E o
  |none=>x) else x
 |none=>x
def ovl(ops:List Oper)(nf:Nat)(E:List AV)(L:Nat→Bool)(e:List AV):List AV:=e.mapIdx fun t x=>fv ops nf E L t x
theorem q8{ops:List Oper}{nf:Nat}{E:List AV}{L:Nat→Bool}{e:List AV}:(ovl ops nf E L e).length=e.length:=by simp [ovl]
theorem mU{ops:List Oper}{nf:Nat}{E:List AV}{L:Nat→Bool}{e:List AV}{t:Nat}(ht:t<e.length):(ovl ops nf E L e).getD t .any=fv ops nf E L t (e.getD t .any):=by
 simp [ovl,ht]
structure FlOk(ops:List Oper)(m nf:Nat):Prop where
 mv:∀f o,nf≤f→ops[f]? =some o→qC o=true
 edges:∀f o,nf≤f→ops[f]? =some o→∀e∈edg o,e<m
 self:∀f o d,nf≤f→ops[f]? =some o→o.dst=some d→d∉aV ops o
 reads:∀f o j oj d,nf≤f→ops[f]? =some o→ops[j]? =some oj→j≠f→o.dst=some d→d∉aV ops oj∧oj.dst≠some d
 wait:∀f o j oj,nf≤f→ops[f]? =some o→ops[j]? =some oj→j≠f→((aN [] ops).getD f 0).testBit j=true∨(Oper.apart ops.toArray o oj=true∧∀e,oj.dst=some e→e∉aV ops o)
theorem FlOk.of{ops:List Oper}{m nf:Nat}(h:∀d,d<ops.length-nf→AW ops (aN [] ops) m (nf+d)=true):FlOk ops m nf:=by
 have key:∀f o,nf≤f→ops[f]? =some o→qC o=true∧(∀e∈edg o,e<m)∧∃d,o.dst=some d∧d∉aV ops o∧∀j oj,ops[j]? =some oj→j≠f→(d∉aV ops oj∧oj.dst≠some d)∧
   (((aN [] ops).getD f 0).testBit j=true∨(Oper.apart ops.toArray o oj=true∧∀e,oj.dst=some e→e∉aV ops o)):=by
  intro f o hf ho;have hlt:f<ops.length:=(List.getElem?_eq_some_iff.1 ho).1;have h1:=h (f-nf) (by omega);rw[show nf+(f-nf)=f by omega]at h1;unfold AW at h1;simp only[ho,Bool.and_eq_true]at h1;obtain⟨⟨h2,h3⟩,h4⟩:=h1;refine⟨h2,fun e he=>by simpa using List.all_eq_true.1 h3 e he, ?_⟩;split at h4
  ·rename_i d hd
   simp only[Bool.and_eq_true,Bool.not_eq_true']at h4;refine⟨d,hd,by simpa using h4.1,fun j oj hj hne=> ?_⟩;have h5:=List.all_eq_true.1 h4.2 j (by simp;exact(List.getElem?_eq_some_iff.1 hj).1);simp only[hj,Bool.or_eq_true,beq_iff_eq,hne,false_or,Bool.and_eq_true,Bool.not_eq_true']at h5;refine⟨⟨by simpa using h5.1.1,fun e=>by simp [e]at h5⟩, ?_⟩;rcases h5.2 with h6|⟨h6,h7⟩
   ·exact .inl h6
   ·refine .inr ⟨h6,fun e he=> ?_⟩
    rw[he]at h7;simpa using h7
  ·cases h4
 refine⟨fun f o h1 h2=>(key f o h1 h2).1,fun f o h1 h2=>(key f o h1 h2).2.1,fun f o d h1 h2 h3=> ?_,fun f o j oj d h1 h2 h3 h4 h5=> ?_,fun f o j oj h1 h2 h3 h4=> ?_⟩
 ·obtain⟨_,_,d',hd',h6,_⟩:=key f o h1 h2
  rw[h3]at hd';obtain rfl:d=d':=by simpa using hd'
  exact h6
 ·obtain⟨_,_,d',hd',_,h6⟩:=key f o h1 h2
  rw[h5]at hd';obtain rfl:d=d':=by simpa using hd'
  exact(h6 j oj h3 h4).1
 ·obtain⟨_,_,d',hd',_,h6⟩:=key f o h1 h2
  exact(h6 j oj h3 h4).2
theorem F6{m:Nat}{N:Nat→Sto}{σ:Sto}{L L':Array Bool}(h:∀j,j<m→L.getD j false=L'.getD j false):stX m N σ L=stX m N σ L':=by
 have:∀(g:Nat→Bool→Bool),((List.range m).any fun j=>g j (L.getD j false))=((List.range m).any fun j=>g j (L'.getD j false)):=by
  intro g;rw[Bool.eq_iff_iff,List.any_eq_true,List.any_eq_true]
  constructor<;>rintro⟨j,hj,hg⟩<;>refine⟨j,hj, ?_⟩<;>have hj':=List.mem_range.1 hj
  ·rw[← h j hj'];exact hg
  ·rw[h j hj'];exact hg
 unfold stX
 funext k
 have h1:((List.range m).any fun j=>L.getD j false&&decide ((stAt N σ j).length≤k)&&decide (k<(stAt N σ (j+1)).length))=((List.range m).any fun j=>L'.getD j false&&decide ((stAt N σ j).length≤k)&&decide (k<(stAt N σ (j+1)).length)):=this fun j b=>b&&decide ((stAt N σ j).length≤k)&&decide (k<(stAt N σ (j+1)).length)
 rw[h1]
theorem qx{P:Program}{ops:Array Oper}{md:Region.Mode}{Q':Exit→Act→World→Prop}:∀(l:List Oper) (k:Nat) (listed:Array Bool) (a:Act) (w:World),(∀j,j<l.length→l[j]? =ops[k+j]?)→
  Region.seqB md ops l.length k listed=true→wpList P ops Q' l a w→wpAny P md ops Q' l.length listed a w
 | [],_,_,_,_,_,hB,h=>⟨by simpa [Region.seqB]using hB,h⟩
 |o :: l,k,listed,a,w,hl,hB,h=>by
  have h0:ops[k]? =some o:=by simpa using (hl 0 (by simp)).symm
  simp only[Zl,Region.seqB,Bool.and_eq_true,decide_eq_true_eq]at hB;refine⟨fun h1=>(by rw[hB.1]at h1;cases h1),fun i hi=> ?_⟩;rw[hB.1]at hi;have hik:i=k:=by simpa using hi
  subst hik;have hw:wpOp P ops Q' i (wpList P ops Q' l) a w:=by unfold wpOp;simp only[h0];exact h
  exact wpOp_mono (fun a' w' h'=>qx l (i+1) _ a' w' (fun j hj=>by have:=hl (j+1) (by simpa using hj);simpa [Nat.add_assoc,Nat.add_comm 1 j]using this) hB.2 h') hw
theorem Bo{m nf n i:Nat}{listed:Array Bool}(hin:i<n)(hr:i<m∨nf≤i)(hsz:i<listed.size)(hun:listed.getD i false=false):
  ((List.range n).filter fun j=>(decide (j<m)||decide (nf≤j))&& !listed.getD j false).length=((List.range n).filter fun j=>(decide (j<m)||decide (nf≤j))&& !(listed.setIfInBounds i true).getD j false).length+1:=by
 have key:∀q,i<q→((List.range q).filter fun j=>(decide (j<m)||decide (nf≤j))&& !listed.getD j false).length=((List.range q).filter fun j=>(decide (j<m)||decide (nf≤j))&& !(listed.setIfInBounds i true).getD j false).length+1:=by
  intro q
  induction q with
  |zero=>intro h;omega
  |succ q ih=>
   intro h;rw[List.range_succ,List.filter_append,List.filter_append,List.length_append,List.length_append];by_cases e:q=i
   ·subst e
    have hsame:((List.range q).filter fun j=>(decide (j<m)||decide (nf≤j))&& !listed.getD j false)=((List.range q).filter fun j=>(decide (j<m)||decide (nf≤j))&& !(listed.setIfInBounds q true).getD j false):=by
     apply List.filter_congr;intro j hj;have:j<q:=by simpa using hj
     rw[aj hsz,decide_eq_false (show ¬ j=q by omega)]
     simp
    have hr':(decide (q<m)||decide (nf≤q))=true:=by simpa using hr
    rw[hsame];simp only[List.filter_cons,List.filter_nil,hr',hun,aj hsz,decide_true,Bool.true_or,Bool.true_and,Bool.not_true,Bool.not_false,if_true,Bool.false_eq_true,if_false,Zl,zn]
   ·have h1:=ih (by omega)
    rw[h1];simp only[List.filter_cons,List.filter_nil,aj hsz,decide_eq_false e,Bool.false_or];split<;>simp<;>omega
 exact key n hin
section
variable {ops : List Oper} {m nf : Nat} {R : Nat → AV} {N : Nat → Sto} {W : Nat → Bool} {env : List AV} {σ : Sto}
theorem DG(hF:FlOk ops m nf)(hmn:m≤nf)(hpre:dB ops (aN [] ops) m=true){listed:Array Bool}{a:Act}{w:World}
  (hI:HInv ops m nf R N (ovl ops nf (aU ops R env m) (fun f=>listed.getD f false) env) σ γe φ0 we σ0 listed a w) {f:Nat} {o:Oper} {x:Operand} {y:O} (hnf:nf≤f) (ho:ops[f]? =some o) (hx:o.op=.move x∨o.op=.assign x) (hy:cO x=some y) (hun:listed.getD f false=false)
  (hedge:∀e∈edg o,listed.getD e false=true):
  HInv ops m nf R N (ovl ops nf (aU ops R env m) (fun g=>(listed.setIfInBounds f true).getD g false) env) σ γe φ0 we σ0 (listed.setIfInBounds f true) (a.put o.dst (a.eval x)) w:=by
 have hlt:f<ops.length:=(List.getElem?_eq_some_iff.1 ho).1;have hsz:f<listed.size:=by rw[hI.size];exact hlt
 obtain⟨_,hg,d,hd⟩:=jh (hF.mv f o hnf ho);have hone:=cL hpre;have hhead:∀j,j<m→(listed.setIfInBounds f true).getD j false=listed.getD j false:=fun j hj=>by
  rw[aj hsz,decide_eq_false (show ¬ j=f by omega),Bool.false_or]
 obtain⟨γ,φ,hK,hS,htl,hrel,hdf,hfix⟩:=hI.st;have hsx:=F6 (N:=N) (σ:=σ) hhead;have hnw:bg ops m d=none:=by
  cases hw:bg ops m d with
  |none=>rfl
  |some j=>
   have hws:=aS hw;have hj:∃oj,ops[j]? =some oj∧oj.dst=some d:=by
    have:=hws.2;unfold bv at this;rw[Option.bind_eq_some_iff]at this;exact this
   obtain⟨oj,hoj,hdj⟩:=hj;exact absurd hdj (hF.reads f o j oj d hnf ho hoj (by omega) hd).2
 have hfld:flAt ops nf d=some f:=by
  cases hfl:flAt ops nf d with
  |none=>exact absurd (by simp [bv,ho,hd]) (zI hfl f hnf hlt)
  |some g=>
   obtain⟨h1,h2,h3⟩:=j4 hfl;by_cases hgf:g=f
   ·rw[hgf]
   ·simp only[bv,Option.bind_eq_some_iff]at h3
    obtain⟨og,hog,hdg⟩:=h3;exact absurd hdg (hF.reads f o g og d hnf ho hog hgf hd).2
 have hlen:(ovl ops nf (aU ops R env m) (fun f=>listed.getD f false) env).length=env.length:=q8;have hval:Rel w γ φ (stX m N σ listed) (evF (aU ops R env m) o) (a.eval x):=by
  rw[tl hx hy];cases x with
  |tmp t=>
   simp only[cO,zj]at hy;subst hy;have hread:t∈aV ops o:=by
    unfold aV;refine List.mem_append.2 (.inl (List.mem_filterMap.2 ⟨.tmp t, ?_,rfl⟩));rcases hx with hx|hx<;>simp [hx,Op.operands]
   simp only[O.ev,Act.eval];by_cases ht:t<env.length
   ·have hv:=hrel t (by rw[hlen];exact ht)
    rw[n8 hone m (Nat.le_refl _) t ht];unfold valX at hv;cases hw:bg ops m t with
    |some j=>
     rw[hw]at hv;have hws:=aS hw;simp only[bv,Option.bind_eq_some_iff]at hws;obtain⟨hjm,oj,hoj,hdj⟩:=hws;have hb:((aN [] ops).getD f 0).testBit j=true:=by
      rcases hF.wait f o j oj hnf ho hoj (by omega)with h|⟨_,h⟩
      ·exact h
      ·exact absurd hread (h t hdj)
     have hlj:listed.getD j false=true:=bt hI.closed ho hedge hb;simp only[hlj,if_true]at hv;simp only[hjm,if_true];exact hv
    |none=>
     rw[hw,mU ht]at hv;have hfn:flAt ops nf t=none:=by
      cases hfl:flAt ops nf t with
      |none=>rfl
      |some g=>
       obtain⟨h1,h2,h3⟩:=j4 hfl;simp only[bv,Option.bind_eq_some_iff]at h3;obtain⟨og,hog,hdg⟩:=h3;by_cases hgf:g=f
       ·subst hgf
        rw[ho]at hog;obtain rfl:o=og:=by simpa using hog
        exact absurd hread (hF.self g o t hnf ho hdg)
       ·exact absurd hread (hF.reads g og f o t h1 hog ho (Ne.symm hgf) hdg).1
     unfold fv at hv;rw[hfn]at hv;exact hv
   ·have hno:(aU ops R env m)[t]? =none:=List.getElem?_eq_none (by rw[dn];exact Nat.le_of_not_lt ht)
    rw[zq,hno];simp [Rel]
  |const v=>
   simp only[cO,zj]at hy;subst hy;exact tB v
  |global g=>simp [cO]at hy
  |func g=>simp [cO]at hy
 refine⟨by simp [hI.size],fun t h1 h2=> ?_,fun j oj hj hlj e he=> ?_,γ,φ,hK,by rw[hsx];exact hS, ?_,fun t ht=> ?_, ?_, ?_⟩
 ·rw[aj hsz,decide_eq_false (show ¬ t=f by omega),Bool.false_or]
  exact hI.tail t h1 h2
 ·rw[aj hsz]at hlj ⊢
  simp only[Bool.or_eq_true,decide_eq_true_eq]at hlj ⊢;rcases hlj with rfl|hlj
  ·rw[ho]at hj
   obtain rfl:o=oj:=by simpa using hj
   exact .inr (hedge e he)
  ·exact .inr (hI.closed j oj hj hlj e he)
 ·rw[q8]
  rw[hlen]at htl;cases o.dst<;>simp [Act.put,htl]
 ·rw[q8]at ht
  rw[hlen]at htl;rw[lQ (by rw[htl];exact ht),hsx,hd];have hvx:valX ops m R (ovl ops nf (aU ops R env m) (fun g=>(listed.setIfInBounds f true).getD g false) env) (listed.setIfInBounds f true) t=
    if d=t then evF (aU ops R env m) o else valX ops m R (ovl ops nf (aU ops R env m) (fun f=>listed.getD f false) env) listed t:=by
   unfold valX;by_cases hdt:d=t
   ·subst hdt
    rw[if_pos rfl,hnw];simp only;rw[mU ht];unfold fv;rw[hfld];simp only[aj hsz,decide_true,Bool.true_or,if_true,ho]
   ·rw[if_neg hdt]
    cases hw:bg ops m t with
    |some j=>
     have hws:=aS hw;simp only[hhead j hws.1]
    |none=>
     simp only;rw[mU ht,mU ht];unfold fv;cases hfl:flAt ops nf t with
     |none=>rfl
     |some g=>
      obtain⟨h1,h2,h3⟩:=j4 hfl;have hgf:g≠f:=fun e=>by
       subst e;simp only[bv,ho,Option.bind_some,hd,zj]at h3;exact hdt h3
      simp only[aj hsz,decide_eq_false hgf,Bool.false_or]
  rw[hvx];by_cases hdt:d=t
  ·rw[if_pos hdt,if_pos (by rw[hdt])]
   exact hval
  ·rw[if_neg hdt,if_neg (by simpa using hdt)]
   exact hrel t (by rw[hlen];exact ht)
 ·cases o.dst<;>simpa [Act.put]using hdf
 ·rw[hsx];exact hfix
theorem KK{Q:Exit→Act→World→Prop}(hF:FlOk ops m nf)(hmn:m≤nf)(hn:nf≤ops.length)(hpre:dB ops (aN [] ops) m=true)
  (hX:∀f o,nf≤f→ops[f]? =some o→∃x y,(o.op=.move x∨o.op=.assign x)∧cO x=some y)
  (hfull:∀t,m≤t→t<nf→fullB (aN [] ops) t=true) (hseq:Region.seqB .any ops.toArray (nf-m) m (rL ops.length m nf)=true) (hsel:Region.noSelect ops.toArray=true)
  (hP:∀c a dst v w,Q (.panic c) (Act.put a dst v) w→Q (.panic c) a w)
  (hst:∀(i:Nat) (o:Oper),i<m→ops[i]? =some o→Step1 P ops o (aU ops R env i) (stAt N σ i) (R i) (N i) (W i))
  (hend:∀a w,SR γe φ0 we σ0 (flE (ops.drop nf) (aU ops R env m)) (stAt N σ m) a w→wpList P ops.toArray Q ((ops.drop m).take (nf-m)) a w):
  ∀(u:Nat) (listed:Array Bool) (a:Act) (w:World),HInv ops m nf R N (ovl ops nf (aU ops R env m) (fun f=>listed.getD f false) env) σ γe φ0 we σ0 listed a w→
   ((List.range ops.length).filter fun j=>(decide (j<m)||decide (nf≤j))&& !listed.getD j false).length=u→wpAny P .any ops.toArray Q (u+(nf-m)) listed a w:=by
 intro u
 induction u with
 |zero=>
  intro listed a w hI hu;have hall:∀j,j<ops.length→(j<m∨nf≤j)→listed.getD j false=true:=by
   intro j hj hor;have h0:=List.eq_nil_of_length_eq_zero hu;rw[List.filter_eq_nil_iff]at h0;have:=h0 j (by simp [hj]);simpa [hor]using this
  have hcan:listed=rL ops.length m nf:=by
   apply Array.ext
   ·simp [rL,hI.size]
   ·intro i h1 h2
    have hin:i<ops.length:=by rw[← hI.size];exact h1
    have e1:listed[i]=listed.getD i false:=by simp [h1]
    have e2:(rL ops.length m nf)[i]=(decide (i<m)||decide (nf≤i)):=by simp [rL]
    rw[e1,e2];by_cases hi:i<m∨nf≤i
    ·rw[hall i hin hi];simpa using hi
    ·rw[hI.tail i (by omega) (by omega)];simp;omega
  obtain⟨γ,φ,hK,hS,htl,hrel,hd,hfix⟩:=hI.st;rw[As fun j hj=>hall j (by omega) (.inl hj)]at hS hrel hfix;rw[q8]at htl hrel;have hSR:SR γe φ0 we σ0 (flE (ops.drop nf) (aU ops R env m)) (stAt N σ m) a w:=by
   refine⟨γ,φ,hK,hS,RelL.of_get (by simp [AX,dn,htl]) fun t x hx=> ?_,hd,hfix⟩;have ht:t<env.length:=by
    have:=(List.getElem?_eq_some_iff.1 hx).1
    rwa [AX,dn]at this
   have hv:=hrel t ht;have hone:=cL hpre;have he:x=(flE (ops.drop nf) (aU ops R env m)).getD t .any:=by rw[zq,hx,Option.getD_some]
   refine⟨a.tmps.getD t undef, ?_, ?_⟩
   ·simp [show t<a.tmps.size by omega]
   ·rw[he]
    have hval:valX ops m R (ovl ops nf (aU ops R env m) (fun f=>listed.getD f false) env) listed t=(flE (ops.drop nf) (aU ops R env m)).getD t .any:=by
     cases hfl:flAt ops nf t with
     |none=>
      rw[DH _ _ t (by rw[dn];exact ht) (fun o ho hd=>by
       obtain⟨j,hj,hoj⟩:=List.mem_iff_getElem.1 ho;simp only[List.length_drop]at hj;refine zI hfl (nf+j) (by omega) (by omega) ?_;rw[List.getElem_drop]at hoj;simp only[bv];rw[zg (by omega),hoj];exact hd),n8 hone m (Nat.le_refl _) t ht]
      unfold valX;cases hw:bg ops m t with
      |some j=>
       have hws:=aS hw;simp only[hall j (by omega) (.inl hws.1),hws.1,if_true]
      |none=>
       simp only;rw[mU ht];unfold fv;rw[hfl]
     |some f=>
      obtain⟨h1,h2,h3⟩:=j4 hfl;simp only[bv,Option.bind_eq_some_iff]at h3;obtain⟨o,ho,hdo⟩:=h3;have hnw:bg ops m t=none:=by
       cases hw:bg ops m t with
       |none=>rfl
       |some j=>
        have hws:=aS hw;simp only[bv,Option.bind_eq_some_iff]at hws;obtain⟨hjm,oj,hoj,hdj⟩:=hws;exact absurd hdj (hF.reads f o j oj t h1 ho hoj (by omega) hdo).2
      have hmem:∀o'∈ops.drop nf,∃g,nf≤g∧ops[g]? =some o':=fun o' ho'=>by
       obtain⟨j,hj,hoj⟩:=List.mem_iff_getElem.1 ho';simp only[List.length_drop]at hj;rw[List.getElem_drop]at hoj;exact⟨nf+j,by omega,by rw[zg (by omega),hoj]⟩
      rw[EF (all:=ops) (ops.drop nf) _ o t (by rw[dn];exact ht) (fun o' ho'=>by obtain⟨g,hg,hog⟩:=hmem o' ho';exact hF.mv g o' hg hog) ?_ ?_ ?_ hdo]
      ·unfold valX
       rw[hnw];simp only;rw[mU ht];unfold fv;rw[hfl];simp only[hall f h2 (.inr h1),if_true,ho]
      ·rw[List.pairwise_iff_getElem]
       intro i j hi hj hij d hdi hdj;simp only[List.length_drop]at hi hj;rw[List.getElem_drop]at hdi hdj
       exact(hF.reads (nf+i) _ (nf+j) _ d (by omega) (zg (by omega)) (zg (by omega)) (by omega) hdi).2 hdj
      ·intro o1 ho1 o2 ho2 d hd2
       obtain⟨g1,hg1,hog1⟩:=hmem o1 ho1;obtain⟨g2,hg2,hog2⟩:=hmem o2 ho2;by_cases hgg:g1=g2
       ·subst hgg
        rw[hog1]at hog2;obtain rfl:o1=o2:=by simpa using hog2
        exact hF.self g1 o1 d hg1 hog1 hd2
       ·exact(hF.reads g2 o2 g1 o1 d hg2 hog2 hog1 hgg hd2).1
      ·rw[List.mem_iff_getElem?]
       exact⟨f-nf,by rw[List.getElem?_drop,show nf+(f-nf)=f by omega];exact ho⟩
    rw[← hval];exact hv
  have hl:((ops.drop m).take (nf-m)).length=nf-m:=by simp;omega
  rw[Nat.zero_add];have hgo:=qx (P:=P) (ops:=ops.toArray) (md:=.any) (Q':=Q) ((ops.drop m).take (nf-m)) m listed a w;rw[hl]at hgo;exact hgo (fun j hj=>by rw[List.getElem?_take,if_pos hj,List.getElem?_drop,List.getElem?_toArray]) (by rw[hcan];exact hseq) (hend a w hSR)
 |succ u ih=>
  intro listed a w hI hu;have hszl:listed.size=ops.length:=hI.size;by_cases hfx:∃f,nf≤f∧f<ops.length∧listed.getD f false=false∧∃o,ops[f]? =some o∧∀e∈edg o,listed.getD e false=true
  ·obtain⟨f,hnf,hfl,hun,o,ho,hedge⟩:=hfx
   obtain⟨x,y,hx,hy⟩:=hX f o hnf ho;obtain⟨_,hg,d,hd⟩:=jh (hF.mv f o hnf ho);have hready:f∈Region.ready .any ops.toArray listed:=mem_ready.2 ⟨getD_in (by rw[hszl];exact hfl) hun,o,by simpa using ho,fun e he hb=>hedge _ (bP.2 ⟨e,he,hb,rfl⟩)⟩;have hfree:Region.free .any ops.toArray listed f=true:=by
    unfold Region.free;simp only[List.getElem?_toArray,ho,List.all_eq_true,List.mem_range,List.size_toArray];intro j hj;by_cases hjf:j=f
    ·simp [hjf]
    ·have hoj:ops[j]? =some ops[j]:=zg hj
     rw[hoj];simp only[Bool.or_eq_true,beq_iff_eq,hjf,false_or];rcases hF.wait f o j ops[j] hnf ho hoj hjf with h|⟨h,_⟩
     ·have:=bt hI.closed ho hedge h
      left
      rw[Array.getD_eq_getD_getElem?]at this ⊢;rw[Array.getElem?_eq_getElem (by omega)]at this ⊢;simpa using this
     ·exact .inr (.inr h)
   have hyl:Yields P ops.toArray o (a.eval x) a:=.inl ⟨by unfold Region.wanted;rw[hg],fun w=>by rcases hx with hx|hx<;>simp [execOp,hx]⟩;rw[show u+1+(nf-m)=(u+(nf-m))+1 by omega];refine wpAny_take (by simpa using ho) hsel hfree (by simpa using hready) (fun c a w h=>hP c a _ _ w h) hyl (ih _ _ _ (DG hF hmn hpre hI hnf ho hx hy hun hedge) ?_);have hcount:=Bo (m:=m) (nf:=nf) (n:=ops.length) (i:=f) (listed:=listed) (by omega) (.inr hnf) (by omega) hun;omega
  ·have hnof:∀f,nf≤f→f<ops.length→listed.getD f false=false→¬ ∃o,ops[f]? =some o∧∀e∈edg o,listed.getD e false=true:=fun f h1 h2 h3 h4=>hfx ⟨f,h1,h2,h3,h4⟩
   have hex:∃j,j<m∧listed.getD j false=false:=by
    false_or_by_contra
    rename_i hc;have hall:∀j,j<m→listed.getD j false=true:=fun j hj=>by
     cases hb:listed.getD j false with
     |true=>rfl
     |false=>exact absurd ⟨j,hj,hb⟩ hc
    have hne:((List.range ops.length).filter fun j=>(decide (j<m)||decide (nf≤j))&& !listed.getD j false)≠[]:=fun h=>by rw[h]at hu;cases hu
    obtain⟨j,hj⟩:=List.exists_mem_of_ne_nil _ hne;simp only[List.mem_filter,List.mem_range,Bool.and_eq_true,Bool.or_eq_true,decide_eq_true_eq,Bool.not_eq_true']at hj;obtain⟨hjn,hjr,hjf⟩:=hj;have hnfj:nf≤j:=by
     rcases hjr with h|h
     ·rw[hall j h]at hjf;cases hjf
     ·exact h
    exact hnof j hnfj hjn hjf ⟨ops[j],zg hjn,fun e he=>hall e (hF.edges j _ hnfj (zg hjn) e he)⟩
   have hready:∃i,i∈Region.ready .any ops.toArray listed:=by
    obtain⟨j,hj,hjf⟩:=hex
    induction j using Nat.strongRecOn with
    |_ j ihj=>
     obtain⟨o,ho,hedge,_⟩:=cE hpre hj;by_cases hall:∀e∈edg o,listed.getD e false=true
     ·refine⟨j,mem_ready.2 ⟨getD_in (by rw[hszl];omega) hjf,o,by simpa using ho,fun e he hb=>hall _ (bP.2 ⟨e,he,hb,rfl⟩)⟩⟩
     ·have⟨e,he,hne⟩:∃e,e∈edg o∧listed.getD e false=false:=by
       false_or_by_contra
       rename_i hc;apply hall;intro e he;cases hb:listed.getD e false with
       |true=>rfl
       |false=>exact absurd ⟨e,he,hb⟩ hc
      exact ihj e (hedge e he) (by have:=hedge e he;omega) hne
   have hhead:∀i,i∈Region.ready .any ops.toArray listed→i<m:=by
    intro i hi;obtain⟨hun,oi,hoi,hall⟩:=mem_ready.1 hi;have hoi':ops[i]? =some oi:=by simpa using hoi
    have hlt:i<ops.length:=(List.getElem?_eq_some_iff.1 hoi').1;have hed:∀e∈edg oi,listed.getD e false=true:=fun e he=>by
     obtain⟨x,hx,hb,rfl⟩:=bP.1 he;exact hall x hx hb
    rcases Nat.lt_or_ge i m with h|h
    ·exact h
    ·exfalso
     rcases Nat.lt_or_ge i nf with h'|h'
     ·obtain⟨j,hj,hjf⟩:=hex
      have hb:=List.all_eq_true.1 (hfull i h h') j (by simp;omega);have:=bt hI.closed hoi' hed hb;rw[hjf]at this;cases this
     ·exact hnof i h' hlt (getD_both hun) ⟨oi,hoi',hed⟩
   rw[show u+1+(nf-m)=(u+(nf-m))+1 by omega];refine⟨fun h0=> ?_,fun i hi=> ?_⟩
   ·obtain⟨i,hi⟩:=hready
    rw[h0]at hi;cases hi
   ·have him:=hhead i hi
    obtain⟨hun,oi,hoi,_⟩:=mem_ready.1 hi;have hoi':ops[i]? =some oi:=by simpa using hoi
    have hlt:i<ops.length:=(List.getElem?_eq_some_iff.1 hoi').1;have hov:(ovl ops nf (aU ops R env m) (fun f=>(listed.setIfInBounds i true).getD f false) env)=ovl ops nf (aU ops R env m) (fun f=>listed.getD f false) env:=by
     unfold ovl
     congr 1
     funext t x
     unfold fv;cases hfl:flAt ops nf t with
     |none=>rfl
     |some g=>
      obtain⟨h1,_,_⟩:=j4 hfl;simp only[aj (show i<listed.size by rw[hszl];exact hlt),decide_eq_false (show ¬ g=i by omega),Bool.false_or]
    refine wpOp_mono (fun a' w' hI'=>ih _ a' w' (by rw[hov];exact hI') ?_) (qh (Q:=Q) hpre (fun i' o' hi' ho'=>Step1.congr (hst i' o' hi' ho') fun t ht=> ?_) hI him hi)
    ·have hcount:=Bo (m:=m) (nf:=nf) (n:=ops.length) (i:=i) (listed:=listed) (by omega) (.inl him) (by omega) (getD_both hun)
     omega
    ·have hone:=cL hpre
     by_cases htl:t<env.length
     ·rw[n8 hone i' (by omega) t (by rw[q8];exact htl),n8 hone i' (by omega) t htl]
      have hfn:flAt ops nf t=none:=by
       cases hfl:flAt ops nf t with
       |none=>rfl
       |some g=>
        obtain⟨h1,h2,h3⟩:=j4 hfl;simp only[bv,Option.bind_eq_some_iff]at h3;obtain⟨og,hog,hdg⟩:=h3;exact absurd ht (hF.reads g og i' o' t h1 hog ho' (by omega) hdg).1
      have hsame:(ovl ops nf (aU ops R env m) (fun f=>listed.getD f false) env).getD t .any=env.getD t .any:=by
       rw[mU htl];unfold fv;rw[hfn]
      cases hw:bg ops m t with
      |none=>exact hsame
      |some j=>simp only[hsame]
     ·rw[zq,zq,List.getElem?_eq_none (by rw[dn,q8];omega),List.getElem?_eq_none (by rw[dn];omega)]
end
theorem Ae{P:Program}{all:List Oper}:∀(l:List Oper) (l':List Ins),bw P all l=some l'→∀o∈l,∃i,cIns P all o=some i
 | [],_,_,o,ho=>by simp at ho
 |o1 :: l,l',h,o,ho=>by
  simp only[bw]at h;split at h
  ·rename_i i r hi hr
   rcases List.mem_cons.1 ho with rfl|ho
   ·exact⟨i,hi⟩
   ·exact Ae l r hr o ho
  ·cases h
theorem Gd(m nf:Nat)(hmn:m≤nf):∀n,nf≤n→((List.range n).filter fun j=>(decide (j<m)||decide (nf≤j))).length+(nf-m)=n:=by
 have h1:∀n,n≤m→((List.range n).filter fun j=>(decide (j<m)||decide (nf≤j))).length=n:=by
  intro n hn;rw[List.filter_eq_self.2 fun j hj=>by have:=List.mem_range.1 hj;simp;omega,List.length_range]
 have h2:∀d,m+d≤nf→((List.range (m+d)).filter fun j=>(decide (j<m)||decide (nf≤j))).length=m:=by
  intro d
  induction d with
  |zero=>intro _;exact h1 m (Nat.le_refl _)
  |succ d ih=>
   intro hd;have e:(decide (m+d<m)||decide (nf≤m+d))=false:=by simp;omega
   rw[← Nat.add_assoc,List.range_succ,List.filter_append,List.length_append,ih (by omega)];simp only[List.filter_cons,List.filter_nil,e,Bool.false_eq_true,if_false,zn,Nat.add_zero]
 intro n hn;obtain⟨d,rfl⟩:∃d,n=nf+d:=⟨n-nf,by omega⟩;clear hn
 induction d with
 |zero=>
  have:=h2 (nf-m) (by omega);rw[show m+(nf-m)=nf by omega]at this;rw[Nat.add_zero,this];omega
 |succ d ih=>
  have e:(decide (nf+d<m)||decide (nf≤nf+d))=true:=by simp
  rw[← Nat.add_assoc,List.range_succ,List.filter_append,List.length_append];simp only[List.filter_cons,List.filter_nil,e,if_true,Zl,zn];omega
theorem uZ{P:Program}{ops:Array Oper}{o:Oper}{a:Act}{w:World}{Q:Value→World→Prop}(h:By o=true)(hex:Exec P Q ((execOp a.eval o).run P w)):∃v,Yields P ops o v a∧Q v w:=by
 unfold By at h;simp only[Bool.and_eq_true,Option.isNone_iff_eq_none]at h;obtain⟨h1,h2⟩:=h;have hw:Region.wanted o (yielded ops a.tmps)=true:=by unfold Region.wanted;rw[h2]
 split at h1
 ·rename_i x hx
  exact⟨a.eval x,.inl ⟨hw,fun w=>by simp [execOp,hx]⟩,by simpa [execOp,hx,Exec]using hex⟩
 ·rename_i x hx
  exact⟨a.eval x,.inl ⟨hw,fun w=>by simp [execOp,hx]⟩,by simpa [execOp,hx,Exec]using hex⟩
 ·rename_i x i hx
  cases hv:a.eval x with
  |tuple vs=>
   cases hi:vs[i]? with
   |some v=>exact⟨v,.inl ⟨hw,fun w=>by simp [execOp,hx,hv,Instr.extract,hi]⟩,by simpa [execOp,hx,hv,Instr.extract,hi,Exec]using hex⟩
   |none=>simp [execOp,hx,hv,Instr.extract,hi,Exec]at hex
  |_=>simp [execOp,hx,hv,Instr.extract,Exec]at hex
 ·cases h1
theorem DO{P:Program}{γe:Labels}{φ0:Nat→Nat}{we:World}{σ0:Sto}{ops:List Oper}{m:Nat}{F:List Nat}{R:Nat→AV}{N:Nat→Sto}{W:Nat→Bool}{env:List AV}{σ:Sto}{Q:Exit→Act→World→Prop}(hpre:dB ops (aN [] ops) m=true)(hm:m≤ops.length)
  (hF:∀p∈F,p<m∧rE ops (aN [] ops) p=true∧∀o,ops[p]? =some o→∀e∈edg o,e∉F)
  (hfull:∀t,m≤t→t<ops.length→tg (aN [] ops) F t=true) (hseq:Region.seqB .any ops.toArray (ops.length-m) m (d9 ops.length m)=true) (hsel:Region.noSelect ops.toArray=true)
  (hP:∀c a dst v w,Q (.panic c) (Act.put a dst v) w→Q (.panic c) a w)
  (hst:∀(i:Nat) (o:Oper),i<m→ops[i]? =some o→Step1 P ops o (aU ops R env i) (stAt N σ i) (R i) (N i) (W i))
  (hend:∀a w,SR γe φ0 we σ0 (aU ops R env m) (stAt N σ m) a w→wpList P ops.toArray Q (ops.drop m) a w):
  ∀(f:Nat) (listed:Array Bool) (a:Act) (w:World),HInv ops m ops.length R N env σ γe φ0 we σ0 listed a w→unl m listed=f→wpAny P .any ops.toArray Q (f+(ops.length-m)) listed a w
 |0,listed,a,w,hI,hf=>zM hpre hm hseq hend listed a w hI hf
 |f+1,listed,a,w,hI,hf=>by
  have hex:∃j,j<m∧listed.getD j false=false:=by
   cases hfl:(List.range m).filter fun j=> !listed.getD j false with
   |nil=>unfold unl at hf;rw[hfl]at hf;simp at hf
   |cons j l=>
    have:j∈(List.range m).filter fun j=> !listed.getD j false:=by rw[hfl];simp
    simp at this;exact⟨j,this.1,by simpa using this.2⟩
  rw[show f+1+(ops.length-m)=(f+(ops.length-m))+1 by omega];by_cases hfx:∃p,p∈F∧listed.getD p false=false∧∃o,ops[p]? =some o∧∀e∈edg o,listed.getD e false=true
  ·obtain⟨p,hp,hun,o,ho,hedge⟩:=hfx
   obtain⟨hpm,hfh,_⟩:=hF p hp;unfold rE at hfh;simp only[ho,Bool.and_eq_true]at hfh;obtain⟨hsl,hall⟩:=hfh;have hready:p∈Region.ready .any ops.toArray listed:=mem_ready.2 ⟨getD_in (by rw[hI.size];omega) hun,o,by simpa using ho,fun e he hb=>hedge _ (bP.2 ⟨e,he,hb,rfl⟩)⟩;have hfree:Region.free .any ops.toArray listed p=true:=by
    unfold Region.free;simp only[List.getElem?_toArray,ho,List.all_eq_true,List.mem_range,List.size_toArray];intro j hj;have h1:=List.all_eq_true.1 hall j (by simpa using hj);by_cases hjf:j=p
    ·simp [hjf]
    ·have hoj:ops[j]? =some ops[j]:=zg hj
     rw[hoj]at h1 ⊢;simp only[Bool.or_eq_true,beq_iff_eq,hjf,false_or]at h1 ⊢;rcases h1 with h1|h1|h1
     ·have:=bt hI.closed ho hedge h1
      left
      have hjs:j<listed.size:=by rw[hI.size];exact hj
      rw[Array.getD_eq_getD_getElem?]at this ⊢;rw[Array.getElem?_eq_getElem hjs]at this ⊢;simpa using this
     ·right;left
      obtain⟨e,he,hb,heq⟩:=bP.1 (by simpa using h1);rw[Array.any_eq_true'];exact⟨e,he,by simp [hb,heq]⟩
     ·exact .inr (.inr h1)
   obtain⟨o',ho',hwt,_,hexec⟩:=zz hpre hst hI hpm hready;rw[ho]at ho';obtain rfl:o=o':=by simpa using ho'
   have hwp:W p=true:=by
    rw[← hwt];unfold By at hsl;simp only[Bool.and_eq_true,Option.isNone_iff_eq_none]at hsl;unfold Region.wanted;rw[hsl.2]
   obtain⟨v,hy,hI'⟩:=uZ (ops:=ops.toArray) hsl (hexec hwp);refine wpAny_take (by simpa using ho) hsel hfree (by simpa using hready) (fun c a w h=>hP c a _ _ w h) hy (DO hpre hm hF hfull hseq hsel hP hst hend f _ _ _ hI' ?_);have:=mN hpm (by rw[hI.size];omega) hun;omega
  ·have hready:∃i,i∈Region.ready .any ops.toArray listed:=by
    obtain⟨j,hj,hjf⟩:=hex
    induction j using Nat.strongRecOn with
    |_ j ih=>
     obtain⟨o,ho,hedge,_⟩:=cE hpre hj;by_cases hall:∀e∈edg o,listed.getD e false=true
     ·refine⟨j,mem_ready.2 ⟨getD_in (by rw[hI.size];omega) hjf,o,by simpa using ho,fun e he hb=>hall _ (bP.2 ⟨e,he,hb,rfl⟩)⟩⟩
     ·have⟨e,he,hne⟩:∃e,e∈edg o∧listed.getD e false=false:=by
       false_or_by_contra
       rename_i hc;apply hall;intro e he;cases hb:listed.getD e false with
       |true=>rfl
       |false=>exact absurd ⟨e,he,hb⟩ hc
      exact ih e (hedge e he) (by have:=hedge e he;omega) hne
   have hhead:∀i,i∈Region.ready .any ops.toArray listed→i<m:=by
    intro i hi;obtain⟨hun,oi,hoi,hall⟩:=mem_ready.1 hi;rcases Nat.lt_or_ge i m with h|h
    ·exact h
    ·exfalso
     have hoi':ops[i]? =some oi:=by simpa using hoi
     have hlt:i<ops.length:=(List.getElem?_eq_some_iff.1 hoi').1;have hed:∀e∈edg oi,listed.getD e false=true:=fun e he=>by
      obtain⟨x,hx,hb,rfl⟩:=bP.1 he;exact hall x hx hb
     have hnon:∀j,j<m→j∉F→listed.getD j false=true:=fun j hj hjF=>by
      have hb:=List.all_eq_true.1 (hfull i h hlt) j (by simp;omega);simp only[Bool.or_eq_true]at hb;rcases hb with hb|hb
      ·exact absurd (by simpa using hb) hjF
      ·exact bt hI.closed hoi' hed hb
     obtain⟨j,hj,hjf⟩:=hex;by_cases hjF:j∈F
     ·obtain⟨_,_,hno⟩:=hF j hjF
      obtain⟨o,ho,hedge,_⟩:=cE hpre hj;exact hfx ⟨j,hjF,hjf,o,ho,fun e he=>hnon e (by have:=hedge e he;omega) (hno o ho e he)⟩
     ·rw[hnon j hj hjF]at hjf;cases hjf
   refine⟨fun h0=> ?_,fun i hi=> ?_⟩
   ·obtain⟨i,hi⟩:=hready
    rw[h0]at hi;cases hi
   ·have him:=hhead i hi
    obtain⟨hun,oi,hoi,_⟩:=mem_ready.1 hi;have hoi':ops[i]? =some oi:=by simpa using hoi
    have hlt:i<ops.length:=(List.getElem?_eq_some_iff.1 hoi').1;refine wpOp_mono (fun a' w' hI'=>DO hpre hm hF hfull hseq hsel hP hst hend f _ a' w' hI' ?_) (qh (Q:=Q) hpre hst hI him hi);have:=mN him (by rw[hI.size];exact hlt) (getD_both hun);omega
theorem BQ{id:Nat}{ops:Array Oper}{m:Nat}(hm:P.follows .mixedOrders=true){l:List Ins}(hl:bw P ops.toList ops.toList=some l)(hmle:m≤ops.toList.length)(hpre:dB ops.toList (aN [] ops.toList) m=true)
  (hfo:oR ops.toList (aN [] ops.toList) (fset ops.toList (aN [] ops.toList) m)=true) (hful:∀d,d<ops.toList.length-m→tg (aN [] ops.toList) (fset ops.toList (aN [] ops.toList) m) (m+d)=true)
  (hseq:Region.seqB .any ops.toList.toArray (ops.toList.length-m) m (d9 ops.toList.length m)=true) (hsel:Region.noSelect ops.toList.toArray=true)
  {K:Ex→List AV→Sto→Prop} {env:List AV} {σ:Sto} {a:Act} {w:World} {Q:Exit→Act→World→Prop}
  (h:runG P (l.take m) env σ fun e σ=>runT P (l.drop m) e σ (K .normal)) (hS:SR γe φ0 we σ0 env σ a w) (hQ:∀env σ a w,K .normal env σ→SR γe φ0 we σ0 env σ a w→Q .normal a w)
  (hP:∀c a dst v w,Q (.panic c) (Act.put a dst v) w→Q (.panic c) a w):(Code.region id ops true).wp P Q a w:=by
 have hF:∀p∈fset ops.toList (aN [] ops.toList) m,p<m∧rE ops.toList (aN [] ops.toList) p=true∧∀o,ops.toList[p]? =some o→∀e∈edg o,e∉fset ops.toList (aN [] ops.toList) m:=by
  intro p hp;have hpm:p<m:=by
   unfold fset at hp;simpa using (List.mem_filter.1 hp).1
  have h1:=List.all_eq_true.1 hfo p hp;simp only[Bool.and_eq_true]at h1;refine⟨hpm,h1.1,fun o ho e he=> ?_⟩;have h2:=h1.2;rw[ho]at h2;have:=List.all_eq_true.1 h2 e he;simpa using this
 obtain⟨h1,h2⟩:=cN ops.toList l m hl;obtain⟨R,N,W,hK,hst⟩:=je (ops.toList.take m) (l.take m) h1 h;have htl:(ops.toList.take m).length=m:=by simp at hmle ⊢;omega
 have henv:∀i,i≤m→aU (ops.toList.take m) R env i=aU ops.toList R env i:=by
  intro i
  induction i with
  |zero=>intro _;rfl
  |succ i ih=>
   intro hi;rw[aU,aU,ih (by omega)]
   congr 1
   simp only[bv,List.getElem?_take,show i<m by omega,if_true]
 rw[htl,henv m (Nat.le_refl _)]at hK;have hst':∀(i:Nat) (o:Oper),i<m→ops.toList[i]? =some o→Step1 P ops.toList o (aU ops.toList R env i) (stAt N σ i) (R i) (N i) (W i):=by
  intro i o hi ho;have:=hst i o (by rw[List.getElem?_take,if_pos hi];exact ho)
  rwa [henv i (by omega)]at this
 refine wp_region_any hm ?_;obtain⟨γ,φ,hKst,hSim,hE,hd,hfix⟩:=hS;have hnone:∀j,(Array.replicate ops.size false).getD j false=false:=fun j=>getD_replicate_false _ _
 have hsx:stX m N σ (Array.replicate ops.size false)=at_ σ:=oh (fun j _=>hnone j) (fun k hk=>by
  obtain⟨l',hl'⟩:=mQ (N:=N) (σ:=σ) 0 m;rw[Nat.zero_add]at hl';rw[hl'];simp only[at_,stAt];rw[List.getElem?_append_left hk])
 have hI:HInv ops.toList m ops.toList.length R N env σ γe φ0 we σ0 (Array.replicate ops.size false) a w.drew:=by
  refine⟨by simp,fun t _ _=>hnone t,fun j o _ hlj=>(by rw[hnone j]at hlj;cases hlj),γ,φ,hKst.trans (Kst.drew _ _), ?_, ?_,fun t ht=> ?_,hd, ?_⟩
  ·rw[hsx];exact hSim.drew
  ·have:=hE.len;simpa using this
  ·rw[hsx]
   unfold valX;cases hw:bg ops.toList m t with
   |none=>exact Rel.mono (Kst.drew γ w) (Live.refl _ _ _ _) _ _ (dY hE t)
   |some j=>simp only[hnone j,Bool.false_eq_true,if_false,Rel]
  ·rw[hsx];exact hfix
 have hany:=DO (P:=P) (Q:=Q) hpre hmle hF (fun t h1 h2=>by have:=hful (t-m) (by omega);rwa [show m+(t-m)=t by omega]at this) hseq hsel hP hst' (fun a w hS'=>dF (ops:=ops) (ops.toList.drop m) (l.drop m) h2 hK hS' hQ)
  (unl m (Array.replicate ops.size false)) _ a w.drew hI rfl
 have hul:unl m (Array.replicate ops.size false)=m:=by
  unfold unl;rw[List.filter_eq_self.2 (fun j _=>by rw[hnone j];rfl)]
  simp
 rw[hul,show m+(ops.toList.length-m)=ops.size by simp at hmle ⊢;omega]at hany;exact hany
theorem Ay{id:Nat}{ops:Array Oper}{nf m:Nat}(hm:P.follows .mixedOrders=true){l:List Ins}(hl:bw P ops.toList ops.toList=some l)(hmn:m≤nf)(hn:nf≤ops.toList.length)(hpre:dB ops.toList (aN [] ops.toList) m=true)
  (hful:∀d,d<nf-m→fullB (aN [] ops.toList) (m+d)=true) (hfl:∀d,d<ops.toList.length-nf→AW ops.toList (aN [] ops.toList) m (nf+d)=true)
  (hseq:Region.seqB .any ops (nf-m) m (rL ops.toList.length m nf)=true) (hsel:Region.noSelect ops=true)
  {K:Ex→List AV→Sto→Prop} {env:List AV} {σ:Sto} {a:Act} {w:World} {Q:Exit→Act→World→Prop}
  (h:runG P (l.take m++l.drop nf) env σ fun e σ=>runT P ((l.drop m).take (nf-m)) e σ (K .normal)) (hS:SR γe φ0 we σ0 env σ a w) (hQ:∀env σ a w,K .normal env σ→SR γe φ0 we σ0 env σ a w→Q .normal a w)
  (hP:∀c a dst v w,Q (.panic c) (Act.put a dst v) w→Q (.panic c) a w):(Code.region id ops true).wp P Q a w:=by
 have hF:=FlOk.of hfl;obtain⟨h1,h2⟩:=cN ops.toList l m hl;obtain⟨_,h3⟩:=cN ops.toList l nf hl;obtain⟨h4,_⟩:=cN (ops.toList.drop m) (l.drop m) (nf-m) h2;rw[om]at h;obtain⟨R,N,W,hK,hst⟩:=je (ops.toList.take m) (l.take m) h1 h;have htl:(ops.toList.take m).length=m:=by simp at hn ⊢;omega
 have henv:∀i,i≤m→aU (ops.toList.take m) R env i=aU ops.toList R env i:=by
  intro i
  induction i with
  |zero=>intro _;rfl
  |succ i ih=>
   intro hi;rw[aU,aU,ih (by omega)]
   congr 1
   simp only[bv,List.getElem?_take,show i<m by omega,if_true]
 rw[htl,henv m (Nat.le_refl _)]at hK;have hmvs:∀o∈ops.toList.drop nf,qC o=true:=fun o ho=>by
  obtain⟨j,hj,hoj⟩:=List.mem_iff_getElem.1 ho;rw[List.getElem_drop]at hoj;rw[List.length_drop]at hj;exact hF.mv (nf+j) o (by omega) (by rw[zg (by omega),hoj])
 have hK2:=runF (ops.toList.drop nf) (l.drop nf) h3 hmvs _ _ hK;have hst':∀(i:Nat) (o:Oper),i<m→ops.toList[i]? =some o→Step1 P ops.toList o (aU ops.toList R env i) (stAt N σ i) (R i) (N i) (W i):=by
  intro i o hi ho;have:=hst i o (by rw[List.getElem?_take,if_pos hi];exact ho)
  rwa [henv i (by omega)]at this
 have hX:∀f o,nf≤f→ops.toList[f]? =some o→∃x y,(o.op=.move x∨o.op=.assign x)∧cO x=some y:=by
  intro f o hf ho;obtain⟨⟨x,hx⟩,_⟩:=jh (hF.mv f o hf ho);have hmem:o∈ops.toList:=List.mem_of_getElem? ho;obtain⟨i,hi⟩:=Ae _ _ hl o hmem;unfold cIns at hi;split at hi
  ·rename_i op g hop _
   rcases hx with hx|hx<;>simp only[hx,cOp,zm]at hop<;>(obtain⟨y,hy,_⟩:=hop;exact⟨x,y,by simp [hx],hy⟩)
  ·cases hi
 refine wp_region_any hm ?_;obtain⟨γ,φ,hKst,hSim,hE,hd,hfix⟩:=hS;have hnone:∀j,(Array.replicate ops.size false).getD j false=false:=fun j=>getD_replicate_false _ _
 have hsx:stX m N σ (Array.replicate ops.size false)=at_ σ:=oh (fun j _=>hnone j) (fun k hk=>by
  obtain⟨l',hl'⟩:=mQ (N:=N) (σ:=σ) 0 m;rw[Nat.zero_add]at hl';rw[hl'];simp only[at_,stAt];rw[List.getElem?_append_left hk])
 have hov:ovl ops.toList nf (aU ops.toList R env m) (fun f=>(Array.replicate ops.size false).getD f false) env=env:=by
  refine List.ext_getElem? fun t=> ?_
  simp only[ovl,List.getElem?_mapIdx];cases env[t]? with
  |none=>rfl
  |some x=>
   simp only[Option.map_some,fv];cases flAt ops.toList nf t with
   |none=>rfl
   |some f=>simp only[hnone f,Bool.false_eq_true,if_false]
 have hI:HInv ops.toList m nf R N (ovl ops.toList nf (aU ops.toList R env m) (fun f=>(Array.replicate ops.size false).getD f false) env) σ γe φ0 we σ0 (Array.replicate ops.size false) a w.drew:=by
  rw[hov];refine⟨by simp,fun t _ _=>hnone t,fun j o _ hlj=>(by rw[hnone j]at hlj;cases hlj),γ,φ,hKst.trans (Kst.drew _ _), ?_, ?_,fun t ht=> ?_,hd, ?_⟩
  ·rw[hsx];exact hSim.drew
  ·have:=hE.len;simpa using this
  ·rw[hsx]
   unfold valX;cases hw:bg ops.toList m t with
   |none=>exact Rel.mono (Kst.drew γ w) (Live.refl _ _ _ _) _ _ (dY hE t)
   |some j=>simp only[hnone j,Bool.false_eq_true,if_false,Rel]
  ·rw[hsx];exact hfix
 have hany:=KK (P:=P) (Q:=Q) hF hmn hn hpre hX (fun t h1 h2=>by have:=hful (t-m) (by omega);rwa [show m+(t-m)=t by omega]at this) hseq hsel hP hst' (fun a w hS'=>dF (ops:=ops) ((ops.toList.drop m).take (nf-m)) ((l.drop m).take (nf-m)) h4 hK2 hS' hQ)
  (((List.range ops.toList.length).filter fun j=>(decide (j<m)||decide (nf≤j))&& !(Array.replicate ops.size false).getD j false).length) _ a w.drew hI rfl
 have hul:((List.range ops.toList.length).filter fun j=>(decide (j<m)||decide (nf≤j))&& !(Array.replicate ops.size false).getD j false).length+(nf-m)=ops.size:=by
  have h5:((List.range ops.toList.length).filter fun j=>(decide (j<m)||decide (nf≤j))&& !(Array.replicate ops.size false).getD j false)=(List.range ops.toList.length).filter fun j=>(decide (j<m)||decide (nf≤j)):=List.filter_congr fun j _=>by rw[hnone j];simp
  rw[h5];have h6:=Gd m nf hmn ops.toList.length hn;simpa using h6
 rw[hul]at hany;exact hany
theorem mS{id:Nat}{ops:Array Oper}{draw:Bool}{c:C}(hm:P.follows .mixedOrders=true)(hc:qm P ops.toList draw=some c){K:Ex→List AV→Sto→Prop}{env:List AV}{σ:Sto}{a:Act}{w:World}{Q:Exit→Act→World→Prop}
  {m0:Nat} (h:wpC P m0 c K env σ) (hS:SR γe φ0 we σ0 env σ a w) (hQ:∀env σ a w,K .normal env σ→SR γe φ0 we σ0 env σ a w→Q .normal a w) (hP:∀c a dst v w,Q (.panic c) (Act.put a dst v) w→Q (.panic c) a w):(Code.region id ops draw).wp P Q a w:=by
 unfold qm at hc;split at hc
 ·cases hc
 ·rename_i l hl
  cases draw with
  |false=>
   simp only[Bool.false_eq_true,if_false,zj]at hc;subst hc;simp only[wpC]at h;exact wp_region_list (dF (ops:=ops) ops.toList l hl h hS hQ)
  |true=>
   simp only[if_true]at hc;split at hc
   rotate_left
   ·split at hc
    ·rename_i hcond
     simp only[zj]at hc;subst hc;simp only[wpC]at h;simp only[Bool.and_eq_true,decide_eq_true_eq]at hcond;obtain⟨⟨⟨⟨⟨hpre,hmle⟩,hfo⟩,hful⟩,hseq⟩,hsel⟩:=hcond;simp only[List.all_eq_true,List.mem_range]at hful;exact BQ hm hl hmle hpre hfo hful hseq hsel h hS hQ hP
    split at hc
    ·rename_i hcond
     simp only[zj]at hc;subst hc;simp only[wpC]at h;simp only[Bool.and_eq_true,List.all_eq_true,List.mem_range]at hcond;obtain⟨⟨⟨⟨hpre,hful⟩,hfl⟩,hseq⟩,hsel⟩:=hcond;have hle:∀ms n,dD ms n≤n:=by
      intro ms n
      induction n with
      |zero=>simp [dD]
      |succ n ih=>simp only[dD];split<;>omega
     have hle2:∀ms n,Br ops.toList ms n≤n:=by
      intro ms n
      induction n with
      |zero=>simp [Br]
      |succ n ih=>simp only[Br];split<;>omega
     exact Ay hm hl (hle _ _) (hle2 _ _) hpre hful hfl hseq hsel h hS hQ hP
    ·cases hc
   split at hc
   ·rename_i hcond
    simp only[zj]at hc;subst hc;simp only[wpC]at h;simp only[Bool.and_eq_true,List.all_eq_true,List.mem_range]at hcond;obtain⟨⟨⟨hpre,hful⟩,hseq⟩,_⟩:=hcond;generalize hmm:dD (aN [] ops.toList) ops.toList.length=m at*;have hmle:m≤ops.toList.length:=by
     rw[← hmm];have:∀ms n,dD ms n≤n:=by
      intro ms n
      induction n with
      |zero=>simp [dD]
      |succ n ih=>simp only[dD];split<;>omega
     exact this _ _
    obtain⟨h1,h2⟩:=cN ops.toList l m hl;obtain⟨R,N,W,hK,hst⟩:=je (ops.toList.take m) (l.take m) h1 h;have htl:(ops.toList.take m).length=m:=by simp at hmle ⊢;omega
    have henv:∀i,i≤m→aU (ops.toList.take m) R env i=aU ops.toList R env i:=by
     intro i
     induction i with
     |zero=>intro _;rfl
     |succ i ih=>
      intro hi;rw[aU,aU,ih (by omega)]
      congr 1
      simp only[bv,List.getElem?_take,show i<m by omega,if_true]
    rw[htl,henv m (Nat.le_refl _)]at hK;have hst':∀(i:Nat) (o:Oper),i<m→ops.toList[i]? =some o→Step1 P ops.toList o (aU ops.toList R env i) (stAt N σ i) (R i) (N i) (W i):=by
     intro i o hi ho;have:=hst i o (by rw[List.getElem?_take,if_pos hi];exact ho)
     rwa [henv i (by omega)]at this
    refine wp_region_any hm ?_;obtain⟨γ,φ,hKst,hSim,hE,hd,hfix⟩:=hS;have hnone:∀j,(Array.replicate ops.size false).getD j false=false:=fun j=>getD_replicate_false _ _
    have hsx:stX m N σ (Array.replicate ops.size false)=at_ σ:=oh (fun j _=>hnone j) (fun k hk=>by
     obtain⟨l',hl'⟩:=mQ (N:=N) (σ:=σ) 0 m;rw[Nat.zero_add]at hl';rw[hl'];simp only[at_,stAt];rw[List.getElem?_append_left hk])
    have hI:HInv ops.toList m ops.toList.length R N env σ γe φ0 we σ0 (Array.replicate ops.size false) a w.drew:=by
     refine⟨by simp,fun t _ _=>hnone t,fun j o _ hlj=>(by rw[hnone j]at hlj;cases hlj),γ,φ,hKst.trans (Kst.drew _ _), ?_, ?_,fun t ht=> ?_,hd, ?_⟩
     ·rw[hsx];exact hSim.drew
     ·have:=hE.len;simpa using this
     ·rw[hsx]
      unfold valX;cases hw:bg ops.toList m t with
      |none=>exact Rel.mono (Kst.drew γ w) (Live.refl _ _ _ _) _ _ (dY hE t)
      |some j=>simp only[hnone j,Bool.false_eq_true,if_false,Rel]
     ·rw[hsx];exact hfix
    have hany:=CN (Q:=Q) hpre hmle (fun t h1 h2=>by have:=hful (t-m) (by omega);rwa [show m+(t-m)=t by omega]at this) hseq hst' (fun a w hS'=>dF (ops:=ops) (ops.toList.drop m) (l.drop m) h2 hK hS' hQ)
     (unl m (Array.replicate ops.size false)) _ a w.drew hI rfl
    have hul:unl m (Array.replicate ops.size false)=m:=by
     unfold unl;rw[List.filter_eq_self.2 (fun j _=>by rw[hnone j];rfl)]
     simp
    rw[hul,show m+(ops.toList.length-m)=ops.size by simp at hmle ⊢;omega]at hany;exact hany
   ·cases hc
end
end Go.Lift
namespace Go.Lift
open Go.RowKit
section
variable {P : Program} {γe : Labels} {φ0 : Nat → Nat} {we : World} {σ0 : Sto}
theorem tH(n:Nat)(σ:Sto)(k:Nat):at_ (fu n σ) k=if k<n then (at_ σ k).map (fun R=>{ R with cells:=rnL (cut n) R.cells }) else none:=by
 unfold fu at_;rw[List.getElem?_map,List.getElem?_take];split
 ·cases σ[k]? with
  |none=>rfl
  |some x=>cases x<;>rfl
 ·rfl
theorem w3(n:Nat)(σ:Sto)(φ:Nat→Nat):Ren (cut n) φ (at_ σ) φ (at_ (fu n σ)):=by
 refine⟨fun k k' R hk hR=> ?_,fun k' R' hR'=> ?_,fun k1 k2 k' h1 h2=> ?_⟩
 ·unfold cut at hk
  split at hk
  ·rename_i hlt
   simp only[zj]at hk;subst hk;exact⟨rfl,by rw[tH,if_pos hlt,hR];rfl⟩
  ·cases hk
 ·rw[tH]at hR'
  split at hR'
  ·rename_i hlt
   simp only[zm]at hR';obtain⟨R,hR,_⟩:=hR';exact⟨k',R,by simp [cut,hlt],hR⟩
  ·cases hR'
 ·unfold cut at h1 h2
  split at h1
  ·split at h2
   ·simp only[zj]at h1 h2
    omega
   ·cases h2
  ·cases h1
theorem zw(live:List Nat)(n:Nat):∀(l:List AV) (i:Nat),(bu live n i l).length=l.length
 | [],_=>rfl
 |x :: l,i=>by simp [bu,zw live n l]
theorem zx(live:List Nat)(n:Nat):∀(l:List AV) (i j:Nat),(bu live n i l)[j]? =(l[j]?).map fun x=>if live.contains (i+j) then rn (cut n) x else .any
 | [],_,_=>by simp [bu]
 |x :: l,i,0=>by simp [bu]
 |x :: l,i,j+1=>by
  simp only[bu,List.getElem?_cons_succ];rw[zx live n l (i+1) j,show i+1+j=i+(j+1)by omega]
theorem cy{e e':List AV}{σ σ':Sto}{a:Act}{w:World}(h:Wk σ0.length e σ e' σ'):SR γe φ0 we σ0 e σ a w→SR γe φ0 we σ0 e' σ' a w:=by
 rintro⟨γ,φ,hK,hS,hE,hd,hfix⟩
 obtain⟨γ',φ',hK',hS',hE',hf⟩:=h γ φ w _ hS hE;refine⟨γ',φ',hK.trans hK',hS',hE',hd,fun k R hR hg=> ?_⟩;obtain⟨h1,R1,h2,h3⟩:=hfix k R hR hg;have hk:k<σ0.length:=by
  by_cases hlt:k<σ0.length
  ·exact hlt
  ·simp [at_,List.getElem?_eq_none (Nat.le_of_not_lt hlt)]at hR
 obtain⟨h4,R2,h5,h6⟩:=hf k R1 hk h2 h3;exact⟨h1.trans h4,R2,h5,h6⟩
theorem Wk.keep{m0:Nat}(live:List Nat)(n:Nat)(e:List AV)(σ:Sto)(hn:m0≤n):Wk m0 e σ (bH live n e) (fu n σ):=by
 intro γ φ w vs hS hE;obtain⟨hK',hS'⟩:=hS.rn (w3 n σ φ);refine⟨_,φ,hK',hS',RelL.of_get ?_ fun i x hx=> ?_,fun k R hk hR hg=> ?_⟩
 ·have:=hE.len;simpa [bH,zw]using this
 ·unfold bH at hx
  rw[zx]at hx;simp only[zm]at hx;obtain⟨y,hy,rfl⟩:=hx;obtain⟨v,hv,hr⟩:=hE.get hy;refine⟨v,hv, ?_⟩;split
  ·exact Rel.rn (w3 n σ φ) y v hr
  ·simp [Rel]
 ·have hk':k<n:=by omega
  exact⟨⟨rfl,fun hl=>by simp [hl,Lab.rn,cut,hk']⟩,{ R with cells:=rnL (cut n) R.cells },by rw[tH,if_pos hk',hR];rfl,hg⟩
theorem Wk.nilE{m0:Nat}(t z:Nat)(e:List AV)(σ:Sto)(ht:e[t]? =some .nil):Wk m0 e σ (e.set t (.own σ.length 0 0)) (σ++[some ⟨z,true,[]⟩]):=by
 intro γ φ w vs hS hE;have hnone:at_ σ σ.length=none:=by simp [at_]
 have hat:at_ (σ++[some ⟨z,true,[]⟩])=upd (at_ σ) σ.length (some ⟨z,true,[]⟩):=by rw[uV,oy]
 obtain⟨hL,hS'⟩:=hS.virt hnone z;refine⟨γ,φ,Kst.refl _ _,by rw[hat];exact hS', ?_,fun k R hk hR hg=> ?_⟩
 ·rw[hat]
  have hE':=RelL.mono (Kst.refl _ _) hL _ _ hE;refine RelL.of_get (by have:=hE.len;simpa using this) fun i x hx=> ?_
  rw[List.getElem?_set]at hx;split at hx
  ·rename_i hti
   subst hti;split at hx
   ·simp only[zj]at hx
    subst hx;obtain⟨v,hv,hr⟩:=hE'.get ht;refine⟨v,hv, ?_⟩;rw[dX hr];simp only[Rel];exact⟨_,aC _ _ _,.inl ⟨trivial,trivial,trivial⟩⟩
   ·cases hx
  ·exact hE'.get hx
 ·have hne:k≠σ.length:=fun e=>by rw[e,hnone]at hR;cases hR
  exact⟨Stay.refl,R,by rw[hat,au _ _ hne];exact hR,hg⟩
theorem Wk.nilS{m0:Nat}(k j z:Nat)(R:Root)(e:List AV)(σ:Sto)(hk:σ[k]? =some (some R))(hj:R.cells[j]? =some .nil):
  Wk m0 e σ e (σ.set k (some { R with cells:=R.cells.set j (.own σ.length 0 0) })++[some ⟨z,true,[]⟩]):=by
 intro γ φ w vs hS hE;have hnone:at_ σ σ.length=none:=by simp [at_]
 have hR:at_ σ k=some R:=by simp [at_,hk]
 have hlt:k<σ.length:=(List.getElem?_eq_some_iff.1 hk).1;have hne:k≠σ.length:=by omega
 have hat:at_ (σ.set k (some { R with cells:=R.cells.set j (.own σ.length 0 0) })++[some ⟨z,true,[]⟩])=upd (upd (at_ σ) σ.length (some ⟨z,true,[]⟩)) k (some { R with cells:=R.cells.set j (.own σ.length 0 0) }):=by
  rw[uV,oy,y7 σ hR,List.length_set]
  funext i
  simp only[upd];by_cases e1:i=σ.length
  ·subst e1;simp [Ne.symm hne]
  ·by_cases e2:i=k<;>simp [e1,e2,hne]
 obtain⟨hL,hS'⟩:=hS.virt hnone z;have hR':upd (at_ σ) σ.length (some ⟨z,true,[]⟩) k=some R:=by rw[au _ _ hne];exact hR
 rcases hS'.root k R hR' with h0|⟨cur,T,hh,hg,hl,hcells⟩
 ·simp [h0]at hj
 obtain⟨hK2,hL2,hS2⟩:=hS'.setRow hR' hh hg cur rfl (R.cells.set j (.own σ.length 0 0)) (by simpa using hl) (fun i av hav=>by
   rw[List.getElem?_set]at hav;split at hav
   ·rename_i hji
    subst hji;split at hav
    ·simp only[zj]at hav
     subst hav;obtain⟨v,hv,hr⟩:=hcells j _ hj;refine⟨v,hv,CRel.of_rel ?_⟩;simp only[CRel]at hr;rw[dX hr];simp only[Rel];exact⟨_,aC _ _ _,.inl ⟨trivial,trivial,trivial⟩⟩
    ·cases hav
   ·exact hcells i av hav) (fun i x hx=>by
   have hij:j≠i:=fun e=>by rw[← e,hj]at hx;cases hx
   exact⟨⟨x,by rw[List.getElem?_set,if_neg hij];exact hx⟩,rfl⟩)
 rw[setRow_self w _ cur T (0,0) hh]at hK2 hL2 hS2;refine⟨γ,φ,Kst.refl _ _,by rw[hat];exact hS2, ?_,fun i Ri hi hRi hgi=> ?_⟩
 ·rw[hat]
  exact RelL.mono hK2 hL2 _ _ (RelL.mono (Kst.refl _ _) hL _ _ hE)
 ·obtain⟨_,R2,h4,_,h5,_⟩:=hL i Ri hRi
  obtain⟨_,R3,h6,_,h7,_⟩:=hL2 i R2 h4;exact⟨Stay.refl,R3,by rw[hat];exact h6,goff h7 (goff h5 hgi)⟩
def Ex.to:Ex→Exit
 | .normal=>.normal
 | .exit id=>.exit id
 | .ret=>.ret
theorem mY{p:Nat→Prop}(h:∃n,p n):∃n,p n∧∀k,p k→n≤k:=by
 obtain⟨n,hn⟩:=h
 induction n using Nat.strongRecOn with
 |_ n ih=>
  by_cases hc:∃k,k<n∧p k
  ·obtain⟨k,hk,hp⟩:=hc
   exact ih k hk hp
  ·exact⟨n,hn,fun k hk=>Nat.le_of_not_lt fun hlt=>hc ⟨k,hlt,hk⟩⟩
theorem vu{ops:List Oper}{draw:Bool}{c:C}(h:qm P ops draw=some c):(∃l,c=.reg l)∨∃p t,c=.draw p t:=by
 unfold qm at h;split at h
 ·cases h
 ·split at h
  ·simp only at h
   split at h
   ·split at h
    ·simp only[zj]at h
     exact .inr ⟨_,_,h.symm⟩
    ·cases h
   ·split at h
    ·simp only[zj]at h
     exact .inr ⟨_,_,h.symm⟩
    split at h
    ·simp only[zj]at h
     exact .inr ⟨_,_,h.symm⟩
    ·cases h
  ·simp only[zj]at h
   exact .inl ⟨_,h.symm⟩
theorem da{cd:Code}{c:C}(h:df P cd=some c):match c with
  | .skip=>cd=.skip
  | .reg _=>∃id ops draw,cd=.region id ops draw
  | .draw _ _=>∃id ops draw,cd=.region id ops draw
  | .drawK _ _=>False
  | .drawW _ _ _ _=>False
  | .seq a b=>∃x y,cd=.seq x y∧df P x=some a∧df P y=some b
  | .cond c a b=>∃o x y,cd=.cond o x y∧cO o=some c∧df P x=some a∧df P y=some b
  | .block id b=>∃x,cd=.block id x∧df P x=some b
  | .loop b=>∃x,cd=.loop x∧df P x=some b
  | .exit id=>cd=.exit id
  | .ret=>cd=.ret
  | .gh _=>False:=by
 cases cd with
 |skip=>simp only[df,zj]at h;subst h;trivial
 |region id ops draw=>
  simp only[df]at h;rcases vu h with ⟨l,rfl⟩|⟨p,t,rfl⟩<;>exact⟨_,_,_,rfl⟩
 |seq x y=>
  simp only[df]at h;split at h
  ·rename_i c1 c2 h1 h2
   simp only[zj]at h;subst h;exact⟨x,y,rfl,h1,h2⟩
  ·cases h
 |cond o x y=>
  simp only[df]at h;split at h
  ·rename_i o' c1 c2 ho h1 h2
   simp only[zj]at h;subst h;exact⟨o,x,y,rfl,ho,h1,h2⟩
  ·cases h
 |block id b=>
  simp only[df,zm]at h;obtain⟨c1,h1,rfl⟩:=h;exact⟨b,rfl,h1⟩
 |loop b=>
  simp only[df,zm]at h;obtain⟨c1,h1,rfl⟩:=h;exact⟨b,rfl,h1⟩
 |exit id=>simp only[df,zj]at h;subst h;trivial
 |ret=>simp only[df,zj]at h;subst h;trivial
 |_=>simp [df]at h
theorem EY(hm:P.follows .mixedOrders=true):∀(c:C) (cd:Code),df P cd=some c.erase→∀{K:Ex→List AV→Sto→Prop} {env:List AV} {σ:Sto} {a:Act} {w:World} {Q:Exit→Act→World→Prop},wpC P σ0.length c K env σ→SR γe φ0 we σ0 env σ a w→
  (∀x env σ a w,K x env σ→SR γe φ0 we σ0 env σ a w→Q x.to a w)→(∀c a dst v w,Q (.panic c) (Act.put a dst v) w→Q (.panic c) a w)→cd.wp P Q a w:=by
 intro c
 induction c with
 |skip=>
  intro cd hc K env σ a w Q h hS hQ hP;have hi:cd=.skip:=da hc;subst hi;exact wp_skip (hQ .normal _ _ _ _ h hS)
 |reg l=>
  intro cd hc K env σ a w Q h hS hQ hP;obtain⟨id,ops,draw,rfl⟩:=da hc;simp only[df]at hc;exact mS hm hc h hS (fun env σ a w hk hs=>hQ .normal env σ a w hk hs) hP
 |draw p t=>
  intro cd hc K env σ a w Q h hS hQ hP;obtain⟨id,ops,draw,rfl⟩:=da hc;simp only[df]at hc;exact mS hm hc h hS (fun env σ a w hk hs=>hQ .normal env σ a w hk hs) hP
 |drawK p t=>
  intro cd hc K env σ a w Q h hS hQ hP
  exact(da hc).elim
 |drawW p q m t=>
  intro cd hc K env σ a w Q h hS hQ hP
  exact(da hc).elim
 |seq x y ihx ihy=>
  intro cd hc K env σ a w Q h hS hQ hP;obtain⟨c1,c2,rfl,h1,h2⟩:=da hc;simp only[wpC]at h;refine wp_seq (ihx c1 h1 h hS (fun x env σ a w hk hs=> ?_) hP);cases x with
  |normal=>exact ihy c2 h2 hk hs hQ hP
  |exit id=>exact hQ (.exit id) _ _ _ _ hk hs
  |ret=>exact hQ .ret _ _ _ _ hk hs
 |cond o x y ihx ihy=>
  intro cd hc K env σ a w Q h hS hQ hP;obtain⟨o',c1,c2,rfl,ho,h1,h2⟩:=da hc;simp only[wpC]at h;split at h
  ·rename_i t ht
   have hS0:=hS;obtain⟨γ,φ,hK,hSim,hE,hd,hfix⟩:=hS0;have hr:=B3 hE ho;rw[ht]at hr;have hv:=dI hr;refine wp_cond hv ?_;cases t with
   |true=>simp only[if_true]at h ⊢;exact ihx c1 h1 h hS hQ hP
   |false=>simp only[Bool.false_eq_true,if_false]at h ⊢;exact ihy c2 h2 h hS hQ hP
  ·exact h.elim
 |block id b ih=>
  intro cd hc K env σ a w Q h hS hQ hP;obtain⟨c1,rfl,h1⟩:=da hc;simp only[wpC]at h;refine wp_block (ih c1 h1 h hS (fun x env σ a w hk hs=> ?_) hP);cases x with
  |normal=>exact hQ .normal _ _ _ _ hk hs
  |exit i=>
   simp only[Ex.to,Exit.inBlock];simp only at hk;split
   ·rename_i e
    rw[if_pos e]at hk;exact hQ .normal _ _ _ _ hk hs
   ·rename_i e
    rw[if_neg e]at hk;exact hQ (.exit i) _ _ _ _ hk hs
  |ret=>exact hQ .ret _ _ _ _ hk hs
 |loop b ih=>
  intro cd hc K env σ a w Q h hS hQ hP;obtain⟨c1,rfl,h1⟩:=da hc;simp only[wpC]at h;obtain⟨J,⟨m,e',σ',hw,hJ⟩,hround⟩:=h;have key:∀a w,∃μ:Nat,(∃n e σ,J n e σ∧SR γe φ0 we σ0 e σ a w)→(∃e σ,J μ e σ∧SR γe φ0 we σ0 e σ a w)∧∀k,(∃e σ,J k e σ∧SR γe φ0 we σ0 e σ a w)→μ≤k:=by
   intro a w;by_cases hx:∃n e σ,J n e σ∧SR γe φ0 we σ0 e σ a w
   ·obtain⟨μ,h1,h2⟩:=mY (p:=fun n=>∃e σ,J n e σ∧SR γe φ0 we σ0 e σ a w) hx
    exact⟨μ,fun _=>⟨h1,h2⟩⟩
   ·exact⟨0,fun h=>absurd h hx⟩
  refine wp_loop (fun a w=>∃n e σ,J n e σ∧SR γe φ0 we σ0 e σ a w) (fun a w=>Classical.choose (key a w)) ⟨m,e',σ',hJ,cy hw hS⟩ fun a w hI=> ?_
  obtain⟨⟨e,σ,hJ,hs⟩,hmin⟩:=Classical.choose_spec (key a w) hI;refine ih c1 h1 (hround _ e σ hJ) hs (fun x env σ a' w' hk hs'=> ?_) hP;cases x with
  |normal=>
   obtain⟨m',e2,σ2,hlt,hw2,hJ2⟩:=hk;have hI':∃n e σ,J n e σ∧SR γe φ0 we σ0 e σ a' w':=⟨m',e2,σ2,hJ2,cy hw2 hs'⟩;refine⟨hI', ?_⟩;have:=(Classical.choose_spec (key a' w') hI').2 m' ⟨e2,σ2,hJ2,cy hw2 hs'⟩;exact Nat.lt_of_le_of_lt this hlt
  |exit id=>exact hQ (.exit id) _ _ _ _ hk hs'
  |ret=>exact hQ .ret _ _ _ _ hk hs'
 |exit id=>
  intro cd hc K env σ a w Q h hS hQ hP;have hi:cd=.exit id:=da hc;subst hi;exact wp_exit (hQ (.exit id) _ _ _ _ h hS)
 |ret=>
  intro cd hc K env σ a w Q h hS hQ hP;have hi:cd=.ret:=da hc;subst hi;exact wp_ret (hQ .ret _ _ _ _ h hS)
 |gh x ih=>
  intro cd hc K env σ a w Q h hS hQ hP;simp only[wpC]at h;refine ih cd hc h hS (fun x env σ a w hk hs=> ?_) hP;cases x with
  |normal=>
   obtain⟨e',σ',hw,hk⟩:=hk;exact hQ .normal _ _ _ _ hk (cy hw hs)
  |exit id=>exact hQ (.exit id) _ _ _ _ hk hs
  |ret=>exact hQ .ret _ _ _ _ hk hs
end
end Go.Lift
namespace Go.Lift
open Go.RowKit
section
variable {P : Program} {w : World} {γ : Labels} {φ : Nat → Nat} {σ : Sto} {env : List AV} {a : Act}
def Ee(tmps:Array Value):ResultVar→Sem Value
 | .tmp t=>pure (tmps.getD t undef)
 | .cell b t=>do loadVar t (← asAddr (tmps.getD b undef))
theorem De(hS:Sim γ φ (at_ σ) w)(hE:RelL w γ φ (at_ σ) env a.tmps.toList){x:ResultVar}{y:RV}(hc:cRV P x=some y){r:AV}(h:u5 env σ y=some r):
  ∃v,(Ee a.tmps x).run P w=.ok v w∧Rel w γ φ (at_ σ) r v:=by
 cases x with
 |tmp t=>
  simp only[cRV,zj]at hc;subst hc;simp only[u5,zj]at h;subst h;exact⟨_,rfl,dY hE t⟩
 |cell b t=>
  simp only[cRV]at hc;split at hc
  ·rename_i n hg hn
   simp only[zj]at hc;subst hc;simp only[u5]at h;split at h
   ·rename_i k off hev
    split at h
    ·rename_i R hR
     split at h
     ·rename_i hle
      simp only[zj]at h;subst h;have hp:=dY hE b;rw[hev]at hp;simp only[Rel]at hp;obtain⟨_,_,hp⟩:=hp;obtain⟨vs,hvl,hvs⟩:=jt (w:=w) (ad:=⟨φ k,off,none⟩) (n:=n) (Q:=fun j v=>∀av,R.cells[off+j]? =some av→Rel w γ φ (at_ σ) (cv k (off+j) av) v) (fun j hj=>by
       obtain⟨v,hv,hrel⟩:=sk hS hR (off:=off+j) (av:=R.cells[off+j]'(by omega)) (by simp);exact⟨v,by rw[db];exact hv,fun av hav=>by rw[zg (by omega)]at hav;simp at hav;subst hav;exact hrel⟩)
      have hl:=run_loadCells_list (P:=P) w ⟨φ k,off,none⟩ vs (fun j v hv=>(hvs j v hv).1);rw[hvl]at hl;obtain⟨i,hi,hsz⟩:∃i,P.info? t=some i∧i.size=n:=by simpa [szOf]using hn
      refine⟨.agg vs.toArray, ?_, ?_⟩
      ·simp only[Ee,hp,asAddr]
       simp [loadVar,iZ hg,sizeOf,typeInfo,hi,hsz,hl]
      ·simp only[Rel]
       refine⟨_,rfl,RelL.of_get ?_ fun i x hx=> ?_⟩
       ·simp only[B8,List.length_take,List.length_drop];omega
       ·rw[B9]at hx
        simp only[zm,List.getElem?_take,List.getElem?_drop]at hx;obtain⟨av,hav,rfl⟩:=hx;split at hav
        ·rename_i hi
         have hlt:i<vs.length:=by omega
         exact⟨vs[i],by simp [hlt],(hvs i _ (by simp [hlt])).2 av hav⟩
        ·cases hav
     ·cases h
    ·cases h
   ·cases h
  ·cases hc
theorem BM(hS:Sim γ φ (at_ σ) w)(hE:RelL w γ φ (at_ σ) env a.tmps.toList):∀{l:List ResultVar} {rs:List RV},cRVs P l=some rs→∀{m:List AV},resL env σ rs=some m→
  ∃vs,(l.mapM (Ee a.tmps)).run P w=.ok vs w∧RelL w γ φ (at_ σ) m vs
 | [],rs,hc,m,h=>by
  simp only[cRVs,zj]at hc;subst hc;simp only[resL,zj]at h;subst h;exact⟨[],rfl,by simp [RelL]⟩
 |x :: l,rs,hc,m,h=>by
  simp only[cRVs]at hc;split at hc
  ·rename_i y rs' hy hrs
   simp only[zj]at hc;subst hc;simp only[resL]at h;split at h
   ·rename_i z m' hz hm
    simp only[zj]at h;subst h;obtain⟨v,hv,hr⟩:=De hS hE hy hz;obtain⟨vs,hvs,hrl⟩:=BM hS hE hrs hm;refine⟨v :: vs, ?_,by simp only[RelL];exact⟨v,vs,rfl,hr,hrl⟩⟩;rw[List.mapM_cons,Sem.run_bind,hv];simp only[Result.andThen_ok,Sem.run_bind,hvs,Sem.run_pure]
   ·cases h
  ·cases hc
theorem ot{fn:Func}(hS:Sim γ φ (at_ σ) w)(hE:RelL w γ φ (at_ σ) env a.tmps.toList){rs:List RV}(hc:cRVs P fn.results.toList=some rs){r:AV}(h:resA rs env σ=some r):
  ∃v,(results fn a.tmps).run P w=.ok v w∧Rel w γ φ (at_ σ) r v:=by
 unfold resA at h;have key:∀{m},resL env σ rs=some m→∃vs:List Value,(results fn a.tmps).run P w=.ok (if h:vs.toArray.size=1 then vs.toArray[0] else .tuple vs.toArray) w∧RelL w γ φ (at_ σ) m vs:=by
  intro m hm;obtain⟨vs,hvs,hrl⟩:=BM hS hE hc hm;refine⟨vs, ?_,hrl⟩;have he:results fn a.tmps=(do let vs ← fn.results.mapM (Ee a.tmps);pure (if h:vs.size=1 then vs[0] else .tuple vs)):=by
   unfold results
   rfl
  rw[he,Sem.run_bind,Array.mapM_eq_mapM_toList,Sem.run_map,hvs]
  rfl
 split at h
 ·rename_i x hm
  simp only[zj]at h;subst h;obtain⟨vs,hvs,hrl⟩:=key hm;simp only[RelL]at hrl;obtain⟨v,vs',rfl,hr,rfl⟩:=hrl;exact⟨v,by rw[hvs];rfl,hr⟩
 ·rename_i m hne hm
  simp only[zj]at h;subst h;obtain⟨vs,hvs,hrl⟩:=key hm;refine⟨.tuple vs.toArray, ?_,by simp only[Rel];exact⟨_,rfl,hrl⟩⟩;have hl:=hrl.len;have h1:¬ vs.toArray.size=1:=by
   intro h1;have:m.length=1:=by simp at h1;omega
   match m,this with
   | [x],_=>exact hne x rfl
  rw[hvs,dif_neg h1]
 ·cases h
end
theorem nl{P:Program}{fn:Func}{R:Ending→World→Prop}{c:_}{a:Act}{dst:Option Tmp}{v:Value}{w:World}(h:bodyPost P fn R (Exit.panic c) (a.put dst v) w):bodyPost P fn R (.panic c) a w:=by
 cases dst with
 |none=>exact h
 |some d=>exact h
theorem spec_of{P:Program}{f:FuncId}{fn:Func}{F:Fun}{args:List AV}{σ0:Sto}{res:AV}{σ1:Sto}(hm:P.follows .mixedOrders=true)(hf:P.funcs[f]? =some fn)(hF:cFun P fn=some F.erase)(h:FnOk P F args σ0 res σ1):Does P f args σ0 res σ1:=by
 intro γ φ w vals hS hargs;unfold cFun at hF;split at hF
 ·rename_i cd hb
  split at hF
  ·rename_i b rs hcc hrs
   split at hF
   ·obtain⟨np,nt,bd,rs'⟩:=F
    simp only[Fun.erase,zj,Fun.mk.injEq]at hF;obtain⟨rfl,rfl,rfl,rfl⟩:=hF;obtain⟨hlen,hwp⟩:=h;simp only at hlen hwp;have hal:=hargs.len;refine calls_of_wp hf hb (EY (γe:=γ) (φ0:=φ) (we:=w) (σ0:=σ0) hm bd cd hcc hwp ⟨γ,φ,Kst.refl _ _,hS, ?_,rfl,fun k R hk hg=>⟨Stay.refl,R,hk,hg⟩⟩ (fun x env σ a w' hpost hSR=> ?_) (fun c a dst v w h=>nl h))
    ·have he:(vals.toArray++Array.replicate (fn.ntmps-vals.toArray.size) undef).toList=vals++List.replicate (fn.ntmps-args.length) undef:=by simp [hal]
     show RelL w γ φ (at_ σ0) _ (vals.toArray++Array.replicate (fn.ntmps-vals.toArray.size) undef).toList
     rw[he];refine hargs.append ?_;generalize fn.ntmps-args.length=n
     induction n with
     |zero=>simp [RelL]
     |succ n ih=>simp only[List.replicate_succ,RelL];exact⟨_,_,rfl,by simp [Rel],ih⟩
    ·obtain⟨hx,env',σ',hwk,hge,r,ids,hr,hnd,hids,hnrm⟩:=hpost
     replace hSR:=cy hwk hSR
     clear hwk
     revert env' σ'
     intro env σ hge hr hnrm hSR;obtain⟨γ1,φ1,hK1,hS1,hE1,hd1,hfix1⟩:=hSR;obtain⟨v,hv,hrel⟩:=ot (fn:=fn) hS1 hE1 hrs hr;unfold nrm at hnrm;simp only[Prod.mk.injEq]at hnrm;obtain⟨hres,hσ1⟩:=hnrm
     let φ2:Nat→Nat:=fun k'=>if k'<σ0.length then φ1 k' else φ1 (ids.getD (k'-σ0.length) 0)
     have hat1:∀k',at_ σ1 k'=(if k'<σ0.length then at_ σ k' else ((ids[k'-σ0.length]?).bind (at_ σ))).map (fun R=>{ R with cells:=rnL (nrmR σ0.length ids) R.cells }):=by
      intro k';have htl:(σ.take σ0.length).length=σ0.length:=by simp;omega
      rw[← hσ1];simp only[at_,List.getElem?_map,List.getElem?_append,htl];by_cases hk:k'<σ0.length
      ·rw[if_pos hk,if_pos hk,List.getElem?_take,if_pos hk]
       cases σ[k']? with
       |none=>rfl
       |some x=>cases x<;>rfl
      ·rw[if_neg hk,if_neg hk]
       cases hi:ids[k'-σ0.length]? with
       |none=>simp
       |some i=>
        simp only[Option.map_some,Option.bind_some,at_];cases σ[i]? with
        |none=>rfl
        |some x=>cases x<;>rfl
     have hRen:Ren (nrmR σ0.length ids) φ1 (at_ σ) φ2 (at_ σ1):=by
      refine⟨fun k k' R hk hR=> ?_,fun k' R' hR'=> ?_,fun k1 k2 k' h1 h2=> ?_⟩
      ·unfold nrmR at hk
       split at hk
       ·rename_i hlt
        simp only[zj]at hk;subst hk;exact⟨by simp [φ2,hlt],by rw[hat1,if_pos hlt,hR];rfl⟩
       ·simp only[zm]at hk
        obtain⟨j,hj,rfl⟩:=hk;have hg:=az hj;have hnl:¬ j+σ0.length<σ0.length:=by omega
        refine⟨by simp [φ2,hnl,hg], ?_⟩;rw[hat1,if_neg hnl,show j+σ0.length-σ0.length=j by omega,hg];simp [hR]
      ·rw[hat1]at hR'
       simp only[zm]at hR';obtain⟨R,hR,_⟩:=hR';split at hR
       ·rename_i hlt
        exact⟨k',R,by simp [nrmR,hlt],hR⟩
       ·rename_i hlt
        simp only[Option.bind_eq_some_iff]at hR;obtain⟨i,hi,hR⟩:=hR;have hil:¬ i<σ0.length:=by have:=hids i (List.mem_of_getElem? hi);omega
        refine⟨i,R, ?_,hR⟩;unfold nrmR;rw[if_neg hil,cz hnd hi]
        simp
        omega
      ·unfold nrmR at h1 h2
       split at h1<;>split at h2
       ·simp only[zj]at h1 h2;omega
       ·simp only[zj,zm]at h1 h2
        obtain⟨j,_,h2⟩:=h2;omega
       ·simp only[zj,zm]at h1 h2
        obtain⟨j,_,h1⟩:=h1;omega
       ·simp only[zm]at h1 h2
        obtain⟨j1,h3,h4⟩:=h1;obtain⟨j2,h5,h6⟩:=h2;have:j1=j2:=by omega
        subst this;have e1:=az h3;have e2:=az h5;rw[e1]at e2;simpa using e2
     obtain⟨hK2,hS2⟩:=hS1.rn hRen;have hrel2:=Rel.rn hRen r v hrel;rw[hres]at hrel2;have hgoal:∃v',Ending.returned v=.returned v'∧∃γ' φ',Kst γ w γ' w'∧(∀k R,at_ σ0 k=some R→R.g=false→Stay γ φ γ' φ' k)∧Sim γ' φ' (at_ σ1) w'∧Rel w' γ' φ' (at_ σ1) res v':=by
      refine⟨v,rfl,_,φ2,hK1.trans hK2,fun k R hk hg=> ?_,hS2,hrel2⟩;have hlt:k<σ0.length:=by
       by_cases h:k<σ0.length
       ·exact h
       ·simp [at_,List.getElem?_eq_none (Nat.le_of_not_lt h)]at hk
      have h1:=(hfix1 k R hk hg).1;refine⟨by simp only[φ2,if_pos hlt];exact h1.1,fun hl=> ?_⟩;have h2:=h1.2 hl;simp [h2,Lab.rn,nrmR,hlt]
     obtain⟨v',e,γ',φ',g1,g2,g3,g4⟩:=hgoal;cases x with
     |normal=>exact⟨hd1,v,hv,v',γ',φ',e,g1,g2,g3,g4⟩
     |ret=>exact⟨hd1,v,hv,v',γ',φ',e,g1,g2,g3,g4⟩
     |exit id=>exact hx.elim
   ·cases hF
  ·cases hF
 ·cases hF
#print axioms spec_of
end Go.Lift
namespace Go.Lift
theorem MS{x:Int}(h1: -9223372036854775808≤x)(h2:x≤9223372036854775807):IntKind.i64.wrap x=x:=Ji ⟨h1,h2⟩
theorem nr{α:Sort _}{a b:α}(h:a=b):a=b:=h
theorem nb{a b:Nat}(h:Nat.ble a b=true):a≤b:=Nat.le_of_ble_eq_true h
def mkB:Nat→Nat→List Bool
 |0,_=>[]
 |n+1,b=>(b % 2==1) :: mkB n (b / 2)
theorem Nr(b:Nat):mkB 0 b=[]:=nr rfl
theorem Nq(n b:Nat):mkB (n+1) b=(b % 2==1) :: mkB n (b / 2):=nr rfl
attribute [go_sem] Nr Nq
def wpN(P:Program)(m0:Nat)(c:C)(N:List AV→Sto→Prop)(X:Nat→List AV→Sto→Prop)(R:List AV→Sto→Prop)(e:List AV)(σ:Sto):Prop:=
 wpC P m0 c (fun x=>match x with
  | .normal=>N
  | .exit i=>X i
  | .ret=>R) e σ
section
variable {P : Program} {m0 : Nat} {N : List AV → Sto → Prop} {X : Nat → List AV → Sto → Prop} {R : List AV → Sto → Prop} {e : List AV} {σ : Sto}
theorem Gp:wpN P m0 .skip N X R e σ=N e σ:=nr rfl
theorem Jm(l:List Ins):wpN P m0 (.reg l) N X R e σ=Lift.runT P l e σ N:=nr rfl
theorem Jk(a b:C):wpN P m0 (.seq a b) N X R e σ=wpN P m0 a (wpN P m0 b N X R) X R e σ:=by
 unfold wpN;rw[wpC]
 congr 1
 funext x
 cases x<;>rfl
theorem MT(c:O)(a b:C):wpN P m0 (.cond c a b) N X R e σ=match c.ev e with
  | .d (.bool t)=>if t=true then wpN P m0 a N X R e σ else wpN P m0 b N X R e σ
  |_=>False:=nr rfl
theorem EX(id:Nat)(b:C):wpN P m0 (.block id b) N X R e σ=wpN P m0 b N (fun i e σ=>if i=id then N e σ else X i e σ) R e σ:=by
 unfold wpN;rw[wpC]
 congr 1
 funext x
 cases x<;>rfl
theorem Gq(id:Nat):wpN P m0 (.exit id) N X R e σ=X id e σ:=nr rfl
theorem Jl:wpN P m0 .ret N X R e σ=R e σ:=nr rfl
def GH(m0:Nat)(N:List AV→Sto→Prop)(e:List AV)(σ:Sto):Prop:=∃e' σ',Wk m0 e σ e' σ'∧N e' σ'
theorem GH.mk{e':List AV}{σ':Sto}(h:Wk m0 e σ e' σ')(hN:N e' σ'):GH m0 N e σ:=⟨e',σ',h,hN⟩
theorem Lq(a:C):wpN P m0 (.gh a) N X R e σ=wpN P m0 a (GH m0 N) X R e σ:=by
 unfold wpN;rw[wpC]
 congr 1
 funext x
 cases x<;>rfl
theorem wi{b:C}(J:Nat→List AV→Sto→Prop)(h0:∃m e' σ',Wk m0 e σ e' σ'∧J m e' σ')(hr:∀m e σ,J m e σ→wpN P m0 b (fun e σ=>∃m' e' σ',m'<m∧Wk m0 e σ e' σ'∧J m' e' σ') X R e σ):wpN P m0 (.loop b) N X R e σ:=by
 unfold wpN;rw[wpC];refine⟨J,h0,fun m e σ hJ=> ?_⟩;have:=hr m e σ hJ;unfold wpN at this;refine cast (congrArg (fun K=>wpC P m0 b K e σ) ?_) this
 funext x
 cases x<;>rfl
def Next(m0 n:Nat)(E:Nat→List AV)(S:Nat→Sto)(k:Nat)(e:List AV)(σ:Sto):Prop:=
 ∃m' e' σ',m'<n-k∧Wk m0 e σ e' σ'∧∃k',k'≤n∧m'=n-k'∧e'=E k'∧σ'=S k'
theorem Next.mk{n k:Nat}{E:Nat→List AV}{S:Nat→Sto}(h:k<n)(hw:Wk m0 e σ (E (k+1)) (S (k+1))):Next m0 n E S k e σ:=
 ⟨n-(k+1),_,_,by omega,hw,k+1,by omega,rfl,rfl,rfl⟩
theorem jc{b:C}(n:Nat)(E:Nat→List AV)(S:Nat→Sto)(h0:Wk m0 e σ (E 0) (S 0))
  (hr:∀k,k≤n→wpN P m0 b (Next m0 n E S k) X R (E k) (S k)):wpN P m0 (.loop b) N X R e σ:=by
 refine wi (fun m e σ=>∃k,k≤n∧m=n-k∧e=E k∧σ=S k) ⟨n,_,_,h0,0,Nat.zero_le _,by omega,rfl,rfl⟩ ?_;rintro m e σ ⟨k,hk,rfl,rfl,rfl⟩;exact hr k hk
def NextI(m0 n:Nat)(I:Nat→Prop)(E:Nat→List AV)(S:Nat→Sto)(k:Nat)(e:List AV)(σ:Sto):Prop:=
 ∃m' e' σ',m'<n-k∧Wk m0 e σ e' σ'∧∃k',k'≤n∧m'=n-k'∧I k'∧e'=E k'∧σ'=S k'
theorem NextI.mk{n k:Nat}{I:Nat→Prop}{E:Nat→List AV}{S:Nat→Sto}(h:k<n)(hi:I (k+1))(hw:Wk m0 e σ (E (k+1)) (S (k+1))):NextI m0 n I E S k e σ:=
 ⟨n-(k+1),_,_,by omega,hw,k+1,by omega,rfl,hi,rfl,rfl⟩
theorem lM{b:C}(n:Nat)(I:Nat→Prop)(E:Nat→List AV)(S:Nat→Sto)(hi:I 0)(h0:Wk m0 e σ (E 0) (S 0))
  (hr:∀k,k≤n→I k→wpN P m0 b (NextI m0 n I E S k) X R (E k) (S k)):wpN P m0 (.loop b) N X R e σ:=by
 refine wi (fun m e σ=>∃k,k≤n∧m=n-k∧I k∧e=E k∧σ=S k) ⟨n,_,_,h0,0,Nat.zero_le _,by omega,hi,rfl,rfl⟩ ?_;rintro m e σ ⟨k,hk,rfl,hi,rfl,rfl⟩;exact hr k hk hi
def FnEnd(l:List RV)(m:Nat)(res:AV)(σ1:Sto)(env:List AV)(σ:Sto):Prop:=
 ∃env' σ',Wk m env σ env' σ'∧m≤σ'.length∧∃r ids,resA l env' σ'=some r∧ids.Nodup∧(∀k∈ids,m≤k)∧nrm m ids r σ'=(res,σ1)
theorem FnEnd.wk{l:List RV}{m:Nat}{res:AV}{σ1 σ':Sto}{env':List AV}(h:Wk m e σ env' σ')(h':FnEnd l m res σ1 env' σ'):FnEnd l m res σ1 e σ:=by
 obtain⟨e2,σ2,h1,h2⟩:=h';exact⟨e2,σ2,h.trans h1,h2⟩
theorem FnEnd.mk{l:List RV}{m:Nat}{r res:AV}{σ σ1:Sto}{env:List AV}(h0:m≤σ.length)(h1:resA l env σ=some r)(h2:(idsN m r).Nodup)(h4:rn (nrmR m (idsN m r)) r=res)
  (h5:(σ.take m++(idsN m r).map (at_ σ)).map (Option.map fun R=>{ R with cells:=rnL (nrmR m (idsN m r)) R.cells })=σ1):FnEnd l m res σ1 env σ:=
 ⟨env,σ,Wk.refl _ _,h0,r,idsN m r,h1,h2,(fun k hk=>by simpa using (List.mem_filter.1 hk).2),Prod.ext h4 h5⟩
theorem zE{l:List RV}{m:Nat}{r res:AV}{σ σ1:Sto}{env:List AV}(h4:rn (nrmR m (idsN m r)) r=res)
 (h5:(σ.take m++(idsN m r).map (at_ σ)).map (Option.map fun R=>{ R with cells:=rnL (nrmR m (idsN m r)) R.cells })=σ1) (h0:m≤σ.length:=by exact nb rfl) (h1:resA l env σ=some r:=by rfl) (h2:(idsN m r).Nodup:=by exact of_decide_eq_true rfl):FnEnd l m res σ1 env σ:=FnEnd.mk h0 h1 h2 h4 h5
theorem fnOk{F:Fun}{args:List AV}{σ0:Sto}{res:AV}{σ1:Sto}(hlen:args.length≤F.nt)
  (h:wpN P σ0.length F.body (FnEnd F.res σ0.length res σ1) (fun _ _ _=>False) (FnEnd F.res σ0.length res σ1) (args++List.replicate (F.nt-args.length) .und) σ0):FnOk P F args σ0 res σ1:=by
 refine⟨hlen, ?_⟩;unfold wpN at h;refine cast (congrArg (fun K=>wpC P σ0.length F.body K (args++List.replicate (F.nt-args.length) .und) σ0) ?_) h
 funext x env σ
 cases x<;>simp [FnEnd]
end
theorem zU{a b:Prop}(h:b)(e:a=b:=by simp only[go_sem,seval,reduceCtorEq];rfl):a:=e.mpr h
theorem zV{a b:Prop}(h:b)(e:a=b:=by simp(disch:=omega) only[go_sem,seval,reduceCtorEq];rfl):a:=e.mpr h
theorem zX{l:List RV}{m:Nat}{r res:AV}{σ σ1:Sto}{env:List AV}(h0:m≤σ.length:=by exact nb rfl)(h1:resA l env σ=some r:=by rfl)(h2:(idsN m r).Nodup:=by exact of_decide_eq_true rfl)(h4:rn (nrmR m (idsN m r)) r=res:=by simp only[go_sem,seval,reduceCtorEq])
 (h5:(σ.take m++(idsN m r).map (at_ σ)).map (Option.map fun R=>{ R with cells:=rnL (nrmR m (idsN m r)) R.cells })=σ1:=by simp only[go_sem,seval,reduceCtorEq]):FnEnd l m res σ1 env σ:=FnEnd.mk h0 h1 h2 h4 h5
theorem zS{P:Program}{f:FuncId}{fn:Func}{F:Fun}{args:List AV}{σ0:Sto}{res:AV}{σ1:Sto}(hf:P.funcs[f]? =some fn)(hF:cFun P fn=some F.erase)
 (h:wpN P σ0.length F.body (FnEnd F.res σ0.length res σ1) (fun _ _ _=>False) (FnEnd F.res σ0.length res σ1) (args++List.replicate (F.nt-args.length) .und) σ0) (hm:P.follows .mixedOrders=true:=by kernel_rfl) (hl:args.length≤F.nt:=by exact nb rfl):Does P f args σ0 res σ1:=spec_of hm hf hF (fnOk hl h)
end Go.Lift
namespace Go.Lift
def KR(K:AV→Sto→Prop)(r:AV):Prop:=K r []
def TG(K:Fg→AV→Sto→Prop)(σ:Sto)(r:AV)(news:Sto):Prop:=K .no r (σ++news)
def SG(P:Program)(l:List Ins)(e:List AV)(σ:Sto)(d:Option Nat)(K:List AV→Sto→Prop)(r:AV)(news:Sto):Prop:=runG P l (put e d r) (σ++news) K
def ST(P:Program)(l:List Ins)(e:List AV)(d:Option Nat)(K:List AV→Sto→Prop)(ks:Fg)(r:AV)(σ:Sto):Prop:=Lift.runT P l (put (ei ks e) d r) σ K
def DK(P:Program)(t:List Ins)(N:List AV→Sto→Prop)(e:List AV)(σ:Sto):Prop:=Lift.runT P t e σ N
def XB(id:Nat)(N:List AV→Sto→Prop)(X:Nat→List AV→Sto→Prop)(i:Nat)(e:List AV)(σ:Sto):Prop:=if i=id then N e σ else X i e σ
section
variable {P : Program} {σ : Sto} {s : St} {ev : O → AV} {k0 : Nat} {K : AV → Sto → Prop} {T : Fg → AV → Sto → Prop} {N : List AV → Sto → Prop} {l : List Ins} {e : List AV} {d : Option Nat} {r : AV} {news : Sto} {ks : Fg} {m0 : Nat} {X : Nat → List AV → Sto → Prop} {R : List AV → Sto → Prop} {t : List Ins} {op : I}
theorem Nw:KR (SG P l e σ d N) r=runG P l (put e d r) σ N:=by simp only[KR,SG,List.append_nil]
theorem Nu:KR (TG (ST P l e d N) σ) r=Lift.runT P l (put e d r) σ N:=by simp only[KR,TG,ST,List.append_nil,ei]
theorem kg:SG P l e σ d N r news=runG P l (put e d r) (σ++news) N:=nr rfl
theorem Nt:TG (ST P l e d N) σ r news=Lift.runT P l (put e d r) (σ++news) N:=nr rfl
theorem kt:ST P l e d N ks r σ=Lift.runT P l (put (ei ks e) d r) σ N:=nr rfl
theorem dk:DK P t N e σ=Lift.runT P t e σ N:=nr rfl
theorem xb(id i:Nat):XB id N X i e σ=if i=id then N e σ else X i e σ:=nr rfl
theorem Ma:runG P [] e σ N=N e σ:=nr rfl
theorem M7:Lift.runT P [] e σ N=N e σ:=nr rfl
theorem K1:runG P (⟨d,none,op⟩ :: l) e σ N=gI P (at_ σ) (O.ev e) σ.length op (SG P l e σ d N):=nr rfl
theorem JV:Lift.runT P (⟨d,none,op⟩ :: l) e σ N=tI P σ (O.ev e) op (ST P l e d N):=nr rfl
def GG(x:AV)(w:Bool)(P:Program)(d:Option Nat)(op:I)(l:List Ins)(e:List AV)(σ:Sto)(N:List AV→Sto→Prop):Prop:=match x with
  | .d (.bool b)=>if b=w then gI P (at_ σ) (O.ev e) σ.length op (SG P l e σ d N) else runG P l (put e d .und) σ N
  | .und=>runG P l (put e d .und) σ N
  |_=>False
def GT(x:AV)(w:Bool)(P:Program)(d:Option Nat)(op:I)(l:List Ins)(e:List AV)(σ:Sto)(N:List AV→Sto→Prop):Prop:=match x with
  | .d (.bool b)=>if b=w then tI P σ (O.ev e) op (ST P l e d N) else Lift.runT P l (put e d .und) σ N
  | .und=>Lift.runT P l (put e d .und) σ N
  |_=>False
def PK(x a b:AV)(K:AV→Sto→Prop):Prop:=match x with
  | .d (.bool t)=>if t=true then KR K a else KR K b
  |_=>False
def CD(x:AV)(P:Program)(m0:Nat)(a b:C)(N:List AV→Sto→Prop)(X:Nat→List AV→Sto→Prop)(R:List AV→Sto→Prop)(e:List AV)(σ:Sto):Prop:=match x with
  | .d (.bool t)=>if t=true then wpN P m0 a N X R e σ else wpN P m0 b N X R e σ
  |_=>False
theorem Hd(g:Nat)(w:Bool):runG P (⟨d,some (g,w),op⟩ :: l) e σ N=GG (e.getD g .any) w P d op l e σ N:=nr rfl
theorem H8(g:Nat)(w:Bool):Lift.runT P (⟨d,some (g,w),op⟩ :: l) e σ N=GT (e.getD g .any) w P d op l e σ N:=nr rfl
theorem ND:GG (.d (.bool true)) true P d op l e σ N=gI P (at_ σ) (O.ev e) σ.length op (SG P l e σ d N):=nr rfl
theorem NG:GG (.d (.bool false)) false P d op l e σ N=gI P (at_ σ) (O.ev e) σ.length op (SG P l e σ d N):=nr rfl
theorem NE:GG (.d (.bool true)) false P d op l e σ N=runG P l (put e d .und) σ N:=nr rfl
theorem NF:GG (.d (.bool false)) true P d op l e σ N=runG P l (put e d .und) σ N:=nr rfl
theorem Nx:GT (.d (.bool true)) true P d op l e σ N=tI P σ (O.ev e) op (ST P l e d N):=nr rfl
theorem NA:GT (.d (.bool false)) false P d op l e σ N=tI P σ (O.ev e) op (ST P l e d N):=nr rfl
theorem Ny:GT (.d (.bool true)) false P d op l e σ N=Lift.runT P l (put e d .und) σ N:=nr rfl
theorem Nz:GT (.d (.bool false)) true P d op l e σ N=Lift.runT P l (put e d .und) σ N:=nr rfl
theorem Lr(c:O)(a b:C):wpN P m0 (.cond c a b) N X R e σ=CD (c.ev e) P m0 a b N X R e σ:=nr rfl
theorem cd_t(a b:C):CD (.d (.bool true)) P m0 a b N X R e σ=wpN P m0 a N X R e σ:=nr rfl
theorem cd_f(a b:C):CD (.d (.bool false)) P m0 a b N X R e σ=wpN P m0 b N X R e σ:=nr rfl
theorem pk_t(a b:AV):PK (.d (.bool true)) a b K=KR K a:=nr rfl
theorem pk_f(a b:AV):PK (.d (.bool false)) a b K=KR K b:=nr rfl
theorem Jn(p t:List Ins):wpN P m0 (.draw p t) N X R e σ=runG P p e σ (DK P t N):=nr rfl
theorem Jo(id:Nat)(b:C):wpN P m0 (.block id b) N X R e σ=wpN P m0 b N (XB id N X) R e σ:=EX id b
theorem NB(x:O):gI P s ev k0 (.mv x) K=KR K (ev x):=nr rfl
theorem MY(x:O):tI P σ ev (.mv x) T=gI P (at_ σ) ev σ.length (.mv x) (TG T σ):=nr rfl
theorem Ku(c:O)(a:O)(b:O):gI P s ev k0 (.pick c a b) K=PK (ev c) (ev a) (ev b) K:=nr rfl
theorem Jt(c:O)(a:O)(b:O):tI P σ ev (.pick c a b) T=gI P (at_ σ) ev σ.length (.pick c a b) (TG T σ):=nr rfl
theorem MB(x:O):gI P s ev k0 (.box x) K=match nj (ev x)with
  |some l=>K (.ptr k0 0) [some ⟨0,false,l⟩]
  |none=>False:=nr rfl
theorem LJ(x:O):tI P σ ev (.box x) T=gI P (at_ σ) ev σ.length (.box x) (TG T σ):=nr rfl
theorem Mk(z:List AV):gI P s ev k0 (.zer z) K=K (.ptr k0 0) [some ⟨0,false,z⟩]:=nr rfl
theorem Lv(z:List AV):tI P σ ev (.zer z) T=gI P (at_ σ) ev σ.length (.zer z) (TG T σ):=nr rfl
theorem ME(z:List AV)(ps:List (Nat × Nat × O)):gI P s ev k0 (.agg z ps) K=match nB ev z ps with
  |some l=>KR K (.agg l)
  |none=>False:=nr rfl
theorem LN(z:List AV)(ps:List (Nat × Nat × O)):tI P σ ev (.agg z ps) T=gI P (at_ σ) ev σ.length (.agg z ps) (TG T σ):=nr rfl
theorem Kv(e:Nat)(n:Nat)(z:List AV)(ps:List (Nat × Nat × O)):gI P s ev k0 (.mksl e n z ps) K=match nB ev (cl n z) ps with
  |some l=>K (.own k0 0 n) [some ⟨e,true,l⟩]
  |none=>False:=nr rfl
theorem Ju(e:Nat)(n:Nat)(z:List AV)(ps:List (Nat × Nat × O)):tI P σ ev (.mksl e n z ps) T=gI P (at_ σ) ev σ.length (.mksl e n z ps) (TG T σ):=nr rfl
theorem NC(a:O):gI P s ev k0 (.ld a) K=match ev a with
  | .ptr k off=>match s k with
   |some R=>match R.cells[off]? with
    |some av=>KR K (cv k off av)
    |none=>False
   |none=>False
  | .rptr l off=>match l[off]? with
   |some x=>KR K (.d x)
   |none=>False
  | .sptr k j off=>match s k with
   |some R=>match R.cells[j]? with
    |some (.tr (.sl _ l))=>match l[off]? with
     |some (.int x)=>KR K (.d (.int x))
     |some (.bool x)=>KR K (.d (.bool x))
     |_=>False
    |_=>False
   |none=>False
  |_=>False:=nr rfl
theorem MZ(a:O):tI P σ ev (.ld a) T=gI P (at_ σ) ev σ.length (.ld a) (TG T σ):=nr rfl
theorem Mr(n:Nat)(a:O):gI P s ev k0 (.ldn n a) K=match ev a with
  | .ptr k off=>match s k with
   |some R=>off+n≤R.cells.length∧KR K (.agg (cvL k off ((R.cells.drop off).take n)))
   |none=>False
  | .rptr l off=>off+n≤l.length∧KR K (.agg (((l.drop off).take n).map .d))
  |_=>False:=nr rfl
theorem LB(n:Nat)(a:O):tI P σ ev (.ldn n a) T=gI P (at_ σ) ev σ.length (.ldn n a) (TG T σ):=nr rfl
theorem MC(op:BinOp)(x:O)(y:O):gI P s ev k0 (.bin op x y) K=match ev x,ev y with
  | .d (.int a),.d (.int b)=>binA op a b (KR K)
  |_,_=>False:=nr rfl
theorem LK(op:BinOp)(x:O)(y:O):tI P σ ev (.bin op x y) T=gI P (at_ σ) ev σ.length (.bin op x y) (TG T σ):=nr rfl
theorem Mz(x:O)(y:O):gI P s ev k0 (.cat x y) K=match ev x,ev y with
  | .d (.str a),.d (.str b)=>a.size+b.size≤9223372036854775807∧KR K (.d (.str (a++b)))
  |_,_=>False:=nr rfl
theorem Kx(n:Bool)(x:O)(y:O):gI P s ev k0 (.eqst n x y) K=match ev x,ev y with
  | .d (.str a),.d (.str b)=>KR K (.d (.bool (n ^^ (a.toList==b.toList))))
  |_,_=>False:=nr rfl
theorem Jw(n:Bool)(x:O)(y:O):tI P σ ev (.eqst n x y) T=gI P (at_ σ) ev σ.length (.eqst n x y) (TG T σ):=nr rfl
theorem My(b:Bool)(x:O):gI P s ev k0 (.cvt b x) K=match ev x with
  | .d (.byte n)=>b=false∧KR K (.d (.int (IntKind.i64.wrap n)))
  | .d (.int n)=>b=true∧KR K (.d (.byte (IntKind.u8.wrap n)))
  |_=>False:=nr rfl
theorem LI(b:Bool)(x:O):tI P σ ev (.cvt b x) T=gI P (at_ σ) ev σ.length (.cvt b x) (TG T σ):=nr rfl
theorem Mm(n:Nat)(x:O):gI P s ev k0 (.shk n x) K=match ev x with
  | .d (.int a)=>KR K (.d (.int (a.fdiv (2 ^ (min n 64)))))
  |_=>False:=nr rfl
theorem MA(x:O):gI P s ev k0 (.bst x) K=match lenA s (ev x)with
  |some m=>match srcA s m (ev x)with
   |some l=>match p9 l with
    |some zs=>KR K (.d (.str (wC zs)))
    |none=>False
   |none=>False
  |none=>False:=nr rfl
theorem Mn(x:O):gI P s ev k0 (.not x) K=match ev x with
  | .d (.bool a)=>KR K (.d (.bool (!a)))
  |_=>False:=nr rfl
theorem Lx(x:O):tI P σ ev (.not x) T=gI P (at_ σ) ev σ.length (.not x) (TG T σ):=nr rfl
theorem Kw(e:Nat)(bytes:Nat)(z:List AV)(l:O)(c:O):gI P s ev k0 (.make e bytes z l c) K=match ev l,ev c with
  | .d (.int l),.d (.int c)=>(0≤l∧l≤c∧bytes*c≤281474976710656)∧K (.own k0 0 l.toNat) [some ⟨e,true,cl l.toNat z⟩]
  |_,_=>False:=nr rfl
theorem Jv(e:Nat)(bytes:Nat)(z:List AV)(l:O)(c:O):tI P σ ev (.make e bytes z l c) T=gI P (at_ σ) ev σ.length (.make e bytes z l c) (TG T σ):=nr rfl
theorem Ml(e:Nat)(x:O)(lo:Option O)(hi:Option O):gI P s ev k0 (.slc e x lo hi) K=match ev x with
  | .own k off n=>match optB ev lo 0,optB ev hi n,s k with
   |some l,some h,some R=>(0≤l∧l≤h∧h≤n)∧(R.g=true→R.e=e)∧KR K (if l=0∨l<h then .own k (off+l.toNat*e) (h-l).toNat else .d (.sl 0 []))
   |_,_,_=>False
  | .d (.sl n cs)=>match optB ev lo 0,optB ev hi n with
   |some l,some h=>(0≤l∧l≤h∧h≤n)∧KR K (.d (.sl (h-l).toNat ((cs.drop (l.toNat*e)).take ((h-l).toNat*e))))
   |_,_=>False
  | .nil=>match optB ev lo 0,optB ev hi 0 with
   |some l,some h=>(l=0∧h=0)∧KR K .nil
   |_,_=>False
  |_=>False:=nr rfl
theorem Lw(e:Nat)(x:O)(lo:Option O)(hi:Option O):tI P σ ev (.slc e x lo hi) T=gI P (at_ σ) ev σ.length (.slc e x lo hi) (TG T σ):=nr rfl
theorem Mu(off:Nat)(x:O):gI P s ev k0 (.fld off x) K=match ev x with
  | .ptr k o=>KR K (.ptr k (o+off))
  | .rptr l o=>KR K (.rptr l (o+off))
  |_=>False:=nr rfl
theorem LE(off:Nat)(x:O):tI P σ ev (.fld off x) T=gI P (at_ σ) ev σ.length (.fld off x) (TG T σ):=nr rfl
theorem Mt(e:Nat)(x:O)(i:O):gI P s ev k0 (.idx e x i) K=match ev x,ev i with
  | .own k off n,.d (.int i)=>(0≤i∧i<n)∧KR K (.ptr k (off+i.toNat*e))
  | .d (.sl n l),.d (.int i)=>(0≤i∧i<n)∧KR K (.rptr l (i.toNat*e))
  | .sub k j,.d (.int i)=>match s k with
   |some R=>match R.cells[j]? with
    |some (.tr (.sl n _))=>(0≤i∧i<n)∧KR K (.sptr k j (i.toNat*e))
    |_=>False
   |none=>False
  |_,_=>False:=nr rfl
theorem LD(e:Nat)(x:O)(i:O):tI P σ ev (.idx e x i) T=gI P (at_ σ) ev σ.length (.idx e x i) (TG T σ):=nr rfl
theorem MD(e n:Nat)(x:O)(i:O):gI P s ev k0 (.aix e n x i) K=match ev x,ev i with
  | .ptr k o,.d (.int i)=>(0≤i∧i<n)∧KR K (.ptr k (o+i.toNat*e))
  | .rptr l o,.d (.int i)=>(0≤i∧i<n)∧KR K (.rptr l (o+i.toNat*e))
  |_,_=>False:=nr rfl
theorem LM(e n:Nat)(x:O)(i:O):tI P σ ev (.aix e n x i) T=gI P (at_ σ) ev σ.length (.aix e n x i) (TG T σ):=nr rfl
theorem Ms(n:Nat)(x:O)(i:O):gI P s ev k0 (.ixa n x i) K=match ev x,ev i with
  | .agg l,.d (.int i)=>match l[i.toNat]? with
   |some y=>(0≤i∧i<n)∧KR K y
   |none=>False
  |_,_=>False:=nr rfl
theorem LC(n:Nat)(x:O)(i:O):tI P σ ev (.ixa n x i) T=gI P (at_ σ) ev σ.length (.ixa n x i) (TG T σ):=nr rfl
theorem Mw(i:Nat)(x:O):gI P s ev k0 (.ext i x) K=match ev x with
  | .tup l=>match l[i]? with
   |some y=>KR K y
   |none=>False
  |_=>False:=nr rfl
theorem LG(i:Nat)(x:O):tI P σ ev (.ext i x) T=gI P (at_ σ) ev σ.length (.ext i x) (TG T σ):=nr rfl
theorem Mo(x:O):gI P s ev k0 (.nck x) K=match ev x with
  | .ptr k o=>KR K (.ptr k o)
  | .rptr l o=>KR K (.rptr l o)
  | .sptr k j o=>KR K (.sptr k j o)
  |_=>False:=nr rfl
theorem Ly(x:O):tI P σ ev (.nck x) T=gI P (at_ σ) ev σ.length (.nck x) (TG T σ):=nr rfl
theorem Mv(off n:Nat)(ag:Bool)(x:O):gI P s ev k0 (.fdv off n ag x) K=match ev x with
  | .agg l=>if ag=true then off+n≤l.length∧KR K (.agg ((l.drop off).take n)) else match l[off]? with
   |some y=>KR K y
   |none=>False
  |_=>False:=nr rfl
theorem LF(off n:Nat)(ag:Bool)(x:O):tI P σ ev (.fdv off n ag x) T=gI P (at_ σ) ev σ.length (.fdv off n ag x) (TG T σ):=nr rfl
theorem Mx(neg:Bool)(n:Nat)(x y:O):gI P s ev k0 (.eqs neg n x y) K=match ev x,ev y with
  | .agg l,.agg m=>match sX l,sX m with
   |some a,some b=>(a.length=n∧b.length=n)∧KR K (.d (.bool (neg ^^ decide (a=b))))
   |_,_=>False
  |_,_=>False:=nr rfl
theorem LH(neg:Bool)(n:Nat)(x y:O):tI P σ ev (.eqs neg n x y) T=gI P (at_ σ) ev σ.length (.eqs neg n x y) (TG T σ):=nr rfl
theorem Mq(x:O):gI P s ev k0 (.len x) K=match lenA s (ev x)with
  |some n=>KR K (.d (.int n))
  |none=>False:=nr rfl
theorem LA(x:O):tI P σ ev (.len x) T=gI P (at_ σ) ev σ.length (.len x) (TG T σ):=nr rfl
theorem Mp(m:Bool)(x:O)(y:O):gI P s ev k0 (.mnx m x y) K=match ev x,ev y with
  | .d (.int a),.d (.int b)=>KR K (.d (.int (if m=true then (if a<b then b else a) else (if b<a then b else a))))
  |_,_=>False:=nr rfl
theorem Lz(m:Bool)(x:O)(y:O):tI P σ ev (.mnx m x y) T=gI P (at_ σ) ev σ.length (.mnx m x y) (TG T σ):=nr rfl
theorem LL(e bytes:Nat)(z:List AV)(s' x:O):tI P σ ev (.app e bytes z s' x) T=match ev s' with
  | .nil=>match lenA (at_ σ) (ev x)with
   |some m=>match srcA (at_ σ) (m*e) (ev x)with
    |some l=>bytes*m≤140737488355328∧T .no (.own σ.length 0 m) (σ++[some ⟨e,true,l⟩])
    |none=>False
   |none=>False
  | .own k off n=>match at_ σ k,lenA (at_ σ) (ev x)with
   |some R,some m=>match srcA (at_ σ) (m*e) (ev x)with
    |some l=>R.g=true∧R.e=e∧off=0∧R.cells.length=n*e∧bytes*(n+m)≤140737488355328∧
      T (.one k) (.own k 0 (n+m)) ((σ.map (Option.map fun R=>{ R with cells:=rnL (fg k) R.cells })).set k (some ⟨e,true,rnL (fg k) R.cells++rnL (fg k) l⟩))
    |none=>False
   |_,_=>False
  |_=>False:=by
 cases h:ev s'<;>simp only[tI,gI,h]<;>rfl
theorem MX(n:Nat)(a x:O):tI P σ ev (.st n a x) T=match ev a with
  | .ptr k off=>match at_ σ k with
   |some R=>match nj (ev x)with
    |some l=>l.length=n∧l.all okC=true∧off+n≤R.cells.length∧(((R.cells.drop off).take n).all trB)=true∧T .no .und (σ.set k (some { R with cells:=R.cells.take off++l++R.cells.drop (off+n) }))
    |none=>False
   |none=>False
  |_=>False:=nr rfl
theorem Jx{f:FuncId}{args:List O}{ds:List AV}{res:AV}{σ1:Sto}(hd:Does P f ds [] res σ1)(he:expL (at_ σ) (args.map ev)=some ds)
  (hp:(dK (args.map ev)||(scal res&&kx σ1))=true) (hk:T .no (rn (sh σ.length) res) (σ++shS σ.length σ1)):tI P σ ev (.call f args) T:=.inl <| .inl ⟨ds,res,σ1,he,hd,hp,hk⟩
theorem Ky{f:FuncId}{args:List O}{ds:List AV}{res:AV}{σ1:Sto}(hd:Does P f ds [] res σ1)(he:expL s (args.map ev)=some ds)
  (hp:(dK (args.map ev)||(scal res&&kx σ1))=true) (hk:K (rn (sh k0) res) (shS k0 σ1)):gI P s ev k0 (.call f args) K:=.inl ⟨ds,res,σ1,he,hd,hp,hk⟩
theorem Cw(M:List Nat){f:FuncId}{args:List O}{ds:List AV}{res:AV}{σv:Sto}(hd:Does P f ds σv res σv)(h0:M.Nodup)(he:rwL s M (args.map ev)=some ds)(h1:M.map s=σv)(h2:vwOk σv=true)
  (h3:(M.all (idsL (args.map ev)).contains)=true) (h4:scal res=true) (hk:K (rn (fun i=>M[i]?) res) []):gI P s ev k0 (.call f args) K:=.inr ⟨M,σv,ds,res,h0,he,h1,h2,h3,hd,h4,hk⟩
theorem eu(M:List Nat)(fz:Bool){f:FuncId}{args:List O}{ds:List AV}{res:AV}{σ1:Sto}(hd:Does P f ds (rwS σ M) res σ1)(h0:M.Nodup)(he:rwL (at_ σ) M (args.map ev)=some ds)(h1:rwIn σ M=true)
  (h2:v7 σ σ1 M 0=true) (h3:ol (σ1.drop M.length)=true) (h4:scal res=true)
  (hk:T .no (rn (rwN M fz σ.length) res) (gr σ1 fz M 0 σ++σ1.drop M.length)):tI P σ ev (.call f args) T:=.inr (.inl ⟨M,fz,ds,res,σ1,h0,he,h1,hd,h2,h3,h4,hk⟩)
theorem am(M:List Nat)(gv:List Nat)(fz:Bool){f:FuncId}{args:List O}{ds:List AV}{res:AV}{σ1:Sto}(h0:M.Nodup)(he:rnL (fun i=>aP i M) (args.map ev)=ds)(σ0:Sto)(hi:cgIn σ M gv=σ0)(hd:Does P f ds σ0 res σ1)
  (h1:cgOk σ σ1 gv M 0=true) (hk:T (.call gv M) (rn (cgNu M gv fz σ.length) res) (cgGo σ1 M gv fz σ.length 0 σ++qH σ1 M gv fz σ.length)):tI P σ ev (.call f args) T:=
 .inr (.inr ⟨M,gv,fz,ds,res,σ1,h0,he,hi ▸ hd,h1,hk⟩)
end
end Go.Lift
namespace Go.Lift
open Go.RowKit
theorem Does.of_calls{P:Program}{f:FuncId}{args:List AV}{res:AV}{v:Value}(hv:∀w γ φ s,Rel w γ φ s res v)
  (h:∀w γ φ vals,RelL w γ φ (at_ []) args vals→Calls P f vals.toArray w fun e w'=>e=.returned v∧Below w.heap.size w w'):Does P f args [] res []:=by
 intro γ φ w vals hS hr
 refine(h w γ φ vals hr).mono fun e w' hq=> ?_
 obtain⟨rfl,hb⟩:=hq;refine⟨v,γ,φ,rfl,⟨hb.os,hb.tape,hb.output,hb.size,fun b hb' _=>⟨hb.block b hb',rfl⟩,fun b cur T f e=>⟨cur, ?_,rfl⟩⟩,fun k R e=> ?_,⟨fun b k p e=>Nat.lt_of_lt_of_le (hS.bound b k p e) hb.size,fun k R e=> ?_,fun b l hl=>by
  obtain⟨h1,cur,T,f,h2,h3⟩:=hS.adm b l hl;exact⟨h1,cur,T,f,h2,(hb.block b (Array.getElem?_eq_some_iff.1 h3).1).trans h3⟩⟩,hv _ _ _ _⟩
 ·exact(hb.block b (Array.getElem?_eq_some_iff.1 e).1).trans e
 ·simp [at_]at e
 ·simp [at_]at e
theorem Does.callsT{P:Program}{f:FuncId}{args:List AV}{x:Bool}(h:Does P f args [] (.d (.bool x)) [])(w:World)(vals:List Value)
  (hA:∀b l,(b,l)∈qc→∃cur T f,l cur.toList∧w.heap[b]? =some (.cells cur T f)) (hr:RelL w (fun b=>if b<w.heap.size then .im else .off) id (at_ []) args vals):Calls P f vals.toArray w fun e w'=>e=.returned (.bool x)∧Below w.heap.size w w':=by
 refine(h _ id w vals ⟨fun b k p e=> ?_,fun k R e=>by simp [at_]at e,fun b l hb=>by
  obtain⟨cur,T,f,h2,h3⟩:=hA b l hb;exact⟨if_pos (Array.getElem?_eq_some_iff.1 h3).1,cur,T,f,h2,h3⟩⟩ hr).mono fun e w' hq=> ?_
 ·split at e<;>cases e
 ·obtain⟨v,γ',φ',rfl,hK,_,_,hv⟩:=hq
  simp only[Rel,Rd]at hv;subst hv;exact⟨rfl,hK.os,hK.tape,hK.output,hK.size,fun b hb=>(hK.blk b hb (fun k p=>by rw[if_pos hb];simp)).1⟩
theorem Wk.kept'{m0:Nat}(live:List Nat)(n:Nat){e e':List AV}{σ σ':Sto}(hn:m0≤n)(h1:bH live n e=e')(h2:fu n σ=σ'):Wk m0 e σ e' σ':=by
 subst h1 h2;exact .keep live n e σ hn
def iv(xs:List Int):List AV:=xs.map fun x=>.d (.int x)
def dv(xs:List Int):List D:=xs.map .int
def ints(xs:List Int):D:=.sl xs.length (dv xs)
section
variable {xs ys : List Int}
theorem cZ:(iv xs).length=xs.length:=by simp [iv]
theorem cM:(dv xs).length=xs.length:=by simp [dv]
theorem Mi(i:Nat):(iv xs)[i]? =xs[i]?.map fun x=>.d (.int x):=by simp [iv]
theorem MK(i:Nat):(dv xs)[i]? =xs[i]?.map .int:=by simp [dv]
theorem Kn(n:Nat):(iv xs).take n=iv (xs.take n):=by simp [iv,List.map_take]
theorem Kq(n:Nat):(iv xs).drop n=iv (xs.drop n):=by simp [iv,List.map_drop]
theorem KH(n:Nat):(dv xs).take n=dv (xs.take n):=by simp [dv,List.map_take]
theorem KJ(n:Nat):(dv xs).drop n=dv (xs.drop n):=by simp [dv,List.map_drop]
theorem Mj:iv xs++iv ys=iv (xs++ys):=by simp [iv]
theorem MJ:(dv xs).map .d=iv xs:=by simp [iv,dv]
theorem lF(f:Nat→Option Nat):rnL f (iv xs)=iv xs:=by
 induction xs with
 |nil=>rfl
 |cons x l ih=>simp only[iv,List.map_cons,rnL,rn]at ih ⊢;rw[ih]
theorem bn:cB (iv xs)=some (dv xs):=by
 induction xs with
 |nil=>rfl
 |cons x l ih=>simp only[iv,dv,List.map_cons,cB,tt]at ih ⊢;rw[ih]
theorem Gf:hH (iv xs)=some (iv xs):=by
 induction xs with
 |nil=>rfl
 |cons x l ih=>simp only[iv,List.map_cons,hH]at ih ⊢;rw[ih];rfl
theorem Lu:(iv xs).all trB=true:=by
 induction xs with
 |nil=>rfl
 |cons x l ih=>simp only[iv,List.map_cons,List.all_cons]at ih ⊢;rw[ih];rfl
theorem Me:(iv xs).all okC=true:=by
 induction xs with
 |nil=>rfl
 |cons x l ih=>simp only[iv,List.map_cons,List.all_cons]at ih ⊢;rw[ih];rfl
theorem IB:(iv xs).all CI=true:=by
 induction xs with
 |nil=>rfl
 |cons x l ih=>simp only[iv,List.map_cons,List.all_cons]at ih ⊢;rw[ih];rfl
theorem IA:(iv xs).all kK=true:=by
 induction xs with
 |nil=>rfl
 |cons x l ih=>simp only[iv,List.map_cons,List.all_cons]at ih ⊢;rw[ih];rfl
theorem GY:i8 (iv xs)=true:=by
 induction xs with
 |nil=>rfl
 |cons x l ih=>simp only[iv,List.map_cons,i8]at ih ⊢;rw[ih];rfl
theorem EU(n:Nat)(x:Int):cl n [.d (.int x)]=iv (List.replicate n x):=by
 unfold cl iv
 induction n with
 |zero=>rfl
 |succ n ih=>rw[List.replicate_succ,List.flatten_cons,ih,List.replicate_succ];rfl
theorem Ko(x:Int):iv xs++[.d (.int x)]=iv (xs++[x]):=by simp [iv]
end
attribute [go_sem] ND NG NE NF Nx NA Ny Nz Lr cd_t cd_f pk_t pk_f Lq Jk Jm Jn Jo Gq Jl Gp rn rnL sh shS lF ints cvL cv List.length_map eq_self bne_self_eq_false decide_true
attribute [go_sem] decide_false List.map_nil List.map_cons fg List.replicate_zero gr rwN List.set_cons_succ List.set_cons_zero List.take_succ_cons List.take_zero List.take_nil
attribute [go_sem] List.drop_succ_cons List.drop_zero List.drop_nil List.all_cons List.all_nil okC trB Me Lu Bool.and_true Bool.and_self Nat.le_refl Nw Nu kg Nt kt
attribute [go_sem] dk xb Ma M7 K1 JV Hd H8 NB MY Ku Jt MB LJ Mk Lv ME LN Kv Ju NC MZ Mr
attribute [go_sem] Mz Kx Jw My LI Mm MA p9 Mo Ly Mv LF Mx LH sX Bool.true_xor Bool.false_xor MD LM Ms LC LB MC LK Mn Lx Kw Jv Ml Lw Mu LE Mt LD Mw LG Mq LA
attribute [go_sem] Mp Lz LL MX Go.Lift.binA Go.Lift.put Go.Lift.ei Go.Lift.apV Go.Lift.apVL O.ev nj lenA srcA hH optB nB at_ List.getD_cons_succ
attribute [go_sem] List.getD_cons_zero List.append_nil List.nil_append List.cons_append List.getElem?_cons_succ List.getElem?_cons_zero Option.join_some Zl
attribute [go_sem] zn if_true if_false Bool.not_true Bool.not_false Bool.false_eq_true Bool.true_eq_false Int.toNat_natCast Int.toNat_zero Nat.mul_one Nat.zero_add
attribute [go_sem] Nat.add_zero List.getElem?_map Option.map_some decide_eq_true_eq true_and and_true Int.natCast_nonneg MS cZ Mi cM MK Kn Kq KH
attribute [go_sem] KJ Mj Ko MJ Gf bn EU List.map_append idsN idsA idsL List.filter_cons List.filter_nil nrmR aP Nat.lt_irrefl
attribute [go_sem] Nat.not_lt_zero Nat.zero_le fu expL expA exp1 expC xZ d8 List.isEmpty_cons List.take_length dK plain scal i8 kx GY Bool.true_and Bool.or_true Bool.true_or
attribute [go_sem] false_implies true_implies Bool.false_or Bool.or_self rwL rwA rw1 rwC rwIn v7 ol IB IA BEq.rfl beq_self_eq_true and_self
section
variable {P : Program} {s : St} {σ : Sto} {ev : O → AV} {k0 : Nat}
theorem zC{f:FuncId}{args:List O}{ds:List AV}{res:AV}{σ1:Sto}{T:Fg→AV→Sto→Prop}(hd:Does P f ds [] res σ1)(hk:T .no (rn (sh σ.length) res) (σ++shS σ.length σ1))(he:expL (at_ σ) (args.map ev)=some ds:=by (simp only[go_sem,seval,reduceCtorEq];done))
 (hp:(dK (args.map ev)||(scal res&&kx σ1))=true:=by first|rfl|(simp only[go_sem];done)):tI P σ ev (.call f args) T:=Jx hd he hp hk
theorem zD{f:FuncId}{args:List O}{ds:List AV}{res:AV}{σ1:Sto}{K:AV→Sto→Prop}(hd:Does P f ds [] res σ1)(hk:K (rn (sh k0) res) (shS k0 σ1))(he:expL s (args.map ev)=some ds:=by (simp only[go_sem,seval,reduceCtorEq];done))
 (hp:(dK (args.map ev)||(scal res&&kx σ1))=true:=by first|rfl|(simp only[go_sem];done)):gI P s ev k0 (.call f args) K:=Ky hd he hp hk
end
end Go.Lift
