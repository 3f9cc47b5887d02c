/-
 LIFT, part 19: an operation that writes to nothing does in a larger store what it does in a smaller. No condition.
-/
import Derived.Test.YtjfmckhbmdjnpaaGreatLiftC
set_option linter.unusedSimpArgs false
set_option linter.unusedVariables false
namespace Go.Lift
open Go.RowKit
section
variable {P : Program} {s s' : St} {ev : O → AV} {k0 : Nat}
theorem qG (hs:∀ k R,s k=some R→s' k=some R) {x:AV} {d:D} (h:exp1 s x=some d):exp1 s' x=some d:=by
 unfold exp1 at h ⊢
 split at h
 ·exact h
 ·exact h
 ·split at h
  ·rename_i R hR;simp only[hs _ _ hR];exact h
  ·cases h
 ·split at h
  ·rename_i R hR;simp only[hs _ _ hR];exact h
  ·cases h
 ·cases h
theorem Bv (hs:∀ k R,s k=some R→s' k=some R):∀ {l m:List AV},expC s l=some m→expC s' l=some m
 | [],m,h=>h
 | x :: l,m,h=>by
  simp only[expC]at h ⊢
  split at h
  ·rename_i y m' hy hm
   rw[qG hs hy,Bv hs hm]
   exact h
  ·cases h
theorem wV (hs:∀ k R,s k=some R→s' k=some R):∀ {l:List AV} {m:List D},lO s l=some m→lO s' l=some m
 | [],m,h=>h
 | x :: l,m,h=>by
  simp only[lO]at h ⊢
  split at h
  ·rename_i y m' hy hm
   have hy':zM s' x=some y:=by
    unfold zM at hy ⊢
    split at hy
    ·exact hy
    ·exact qG hs hy
   rw[wV hs hm,hy']
   exact h
  ·cases h
theorem Hb (hs:∀ k R,s k=some R→s' k=some R) {x y:AV} (h:expA s x=some y):expA s' x=some y:=by
 unfold expA at h ⊢
 split at h
 ·simp only[zm]at h ⊢
  obtain⟨m,hm,e⟩:=h
  exact⟨m,Bv hs hm,e⟩
 ·split at h
  ·rename_i R hR
   simp only[hs _ _ hR]
   split at h
   ·rename_i l hl
    simp only[wV hs hl]
    exact h
   ·cases h
  ·cases h
 ·exact h
 ·simp only[zm]at h
  obtain⟨m,hm,e⟩:=h
  rw[qG hs hm]
  simp [e]
theorem xG (hs:∀ k R,s k=some R→s' k=some R):∀ {l m:List AV},expL s l=some m→expL s' l=some m
 | [],m,h=>h
 | x :: l,m,h=>by
  simp only[expL]at h ⊢
  split at h
  ·rename_i y m' hy hm
   rw[Hb hs hy,xG hs hm]
   exact h
  ·cases h
theorem E3 (hs:∀ k R,s k=some R→s' k=some R) {M:List Nat} {x y:AV} (h:rw1 s M x=some y):rw1 s' M x=some y:=by
 unfold rw1 at h ⊢
 split at h
 ·split at h
  ·exact h
  ·simp only[zm]at h ⊢
   obtain⟨d,hd,e⟩:=h
   exact⟨d,qG hs hd,e⟩
 ·exact h
 ·exact h
 ·simp only[zm]at h ⊢
  obtain⟨d,hd,e⟩:=h
  exact⟨d,qG hs hd,e⟩
theorem E2 (hs:∀ k R,s k=some R→s' k=some R) {M:List Nat}:∀ {l m:List AV},rwC s M l=some m→rwC s' M l=some m
 | [],m,h=>h
 | x :: l,m,h=>by
  simp only[rwC]at h ⊢
  split at h
  ·rename_i y m' hy hm
   rw[E3 hs hy,E2 hs hm]
   exact h
  ·cases h
theorem E1 (hs:∀ k R,s k=some R→s' k=some R) {M:List Nat}:∀ {l m:List AV},rwL s M l=some m→rwL s' M l=some m
 | [],m,h=>h
 | x :: l,m,h=>by
  simp only[rwL]at h ⊢
  split at h
  ·rename_i y m' hy hm
   have hA:rwA s' M x=some y:=by
    unfold rwA at hy ⊢
    split at hy
    ·simp only[zm]at hy ⊢
     obtain⟨m2,hm2,e⟩:=hy
     exact⟨m2,E2 hs hm2,e⟩
    ·exact E3 hs hy
   rw[hA,E1 hs hm]
   exact h
  ·cases h
theorem xl (hs:∀ k R,s k=some R→s' k=some R) {x:AV} {n:Nat} (h:lenA s x=some n):lenA s' x=some n:=by
 unfold lenA at h ⊢
 split at h
 ·exact h
 ·exact h
 ·exact h
 ·exact h
 ·split at h
  ·rename_i R hR;simp only[hs _ _ hR];exact h
  ·cases h
 ·cases h
theorem AZ (hs:∀ k R,s k=some R→s' k=some R) {x:AV} {n:Nat} {l:List AV} (h:srcA s n x=some l):srcA s' n x=some l:=by
 unfold srcA at h ⊢
 split at h
 ·exact h
 ·exact h
 ·split at h
  ·rename_i R hR;simp only[hs _ _ hR];exact h
  ·cases h
 ·cases h
theorem Hs {op:BinOp} {a b:Int} {K:AV→Prop} (h:binA op a b K):∃ r,K r∧binA op a b fun r'=>r'=r:=by
 cases op<;>simp only[binA]at h ⊢ <;>first
  | exact⟨_,h,rfl⟩
  | exact⟨_,h.2,h.1,rfl⟩
  | exact h.elim
theorem Kn {i:I} {K:AV→Sto→Prop} (h:gI P s ev k0 i K):∃ r n,K r n∧∀ s':St,(∀ k R,s k=some R→s' k=some R)→gI P s' ev k0 i fun r' n'=>r'=r∧n'=n:=by
 cases i with
 | mv x=>exact⟨_,_,h,fun s' hs=>⟨rfl,rfl⟩⟩
 | pick c a b=>
  simp only[gI]at h
  split at h
  ·rename_i t ht
   split at h
   ·rename_i htt;exact⟨_,_,h,fun s' hs=>by simp [gI,ht,htt]⟩
   ·rename_i htt;exact⟨_,_,h,fun s' hs=>by simp [gI,ht,htt]⟩
  ·exact h.elim
 | box x=>
  simp only[gI]at h
  split at h
  ·rename_i l hl;exact⟨_,_,h,fun s' hs=>by simp [gI,hl]⟩
  ·exact h.elim
 | zer z=>exact⟨_,_,h,fun s' hs=>⟨rfl,rfl⟩⟩
 | agg z ps=>
  simp only[gI]at h
  split at h
  ·rename_i l hl;exact⟨_,_,h,fun s' hs=>by simp [gI,hl]⟩
  ·exact h.elim
 | mksl e n z ps=>
  simp only[gI]at h
  split at h
  ·rename_i l hl;exact⟨_,_,h,fun s' hs=>by simp [gI,hl]⟩
  ·exact h.elim
 | ld a=>
  simp only[gI]at h
  split at h
  ·rename_i k off hev
   split at h
   ·rename_i R hR
    split at h
    ·rename_i av hav;exact⟨_,_,h,fun s' hs=>by simp [gI,hev,hs _ _ hR,hav]⟩
    ·exact h.elim
   ·exact h.elim
  ·rename_i l off hev
   split at h
   ·rename_i x hx;exact⟨_,_,h,fun s' hs=>by simp [gI,hev,hx]⟩
   ·exact h.elim
  ·rename_i k j off hev
   split at h
   ·rename_i R hR
    split at h
    ·rename_i n l hc
     split at h
     ·rename_i x hx;exact⟨_,_,h,fun s' hs=>by simp [gI,hev,hs _ _ hR,hc,hx]⟩
     ·rename_i x hx;exact⟨_,_,h,fun s' hs=>by simp [gI,hev,hs _ _ hR,hc,hx]⟩
     ·exact h.elim
    ·exact h.elim
   ·exact h.elim
  ·exact h.elim
 | ldn n a=>
  simp only[gI]at h
  split at h
  ·rename_i k off hev
   split at h
   ·rename_i R hR;exact⟨_,_,h.2,fun s' hs=>by simp only[gI,hev,hs _ _ hR];exact⟨h.1,by simp⟩⟩
   ·exact h.elim
  ·rename_i l off hev;exact⟨_,_,h.2,fun s' hs=>by simp only[gI,hev];exact⟨h.1,by simp⟩⟩
  ·exact h.elim
 | bin op x y=>
  simp only[gI]at h
  split at h
  ·rename_i a b ha hb
   obtain⟨r,hr,hb'⟩:=Hs h
   refine⟨r,[],hr,fun s' hs=> ?_⟩
   simpa [gI,ha,hb]using hb'
  ·exact h.elim
 | binb n x y=>
  simp only[gI]at h
  split at h
  ·rename_i a b ha hb;exact⟨_,_,h,fun s' hs=>by simp [gI,ha,hb]⟩
  ·exact h.elim
 | cat x y=>
  simp only[gI]at h
  split at h
  ·rename_i a b ha hb;exact⟨_,_,h.2,fun s' hs=>by simp only[gI,ha,hb];exact⟨h.1,by simp⟩⟩
  ·exact h.elim
 | eqst n x y=>
  simp only[gI]at h
  split at h
  ·rename_i a b ha hb;exact⟨_,_,h,fun s' hs=>by simp [gI,ha,hb]⟩
  ·exact h.elim
 | cvt b x=>
  simp only[gI]at h
  split at h
  ·rename_i a ha;exact⟨_,_,h.2,fun s' hs=>by simp only[gI,ha];exact⟨h.1,by simp⟩⟩
  ·rename_i a ha;exact⟨_,_,h.2,fun s' hs=>by simp only[gI,ha];exact⟨h.1,by simp⟩⟩
  ·exact h.elim
 | shk n x=>
  simp only[gI]at h
  split at h
  ·rename_i a ha;exact⟨_,_,h,fun s' hs=>by simp [gI,ha]⟩
  ·exact h.elim
 | bst x=>
  simp only[gI]at h
  split at h
  ·rename_i m hm
   split at h
   ·rename_i l hl
    split at h
    ·rename_i zs hz;exact⟨_,_,h,fun s' hs=>by simp only[gI,xl hs hm,AZ hs hl,hz];simp⟩
    ·exact h.elim
   ·exact h.elim
  ·exact h.elim
 | not x=>
  simp only[gI]at h
  split at h
  ·rename_i a ha;exact⟨_,_,h,fun s' hs=>by simp [gI,ha]⟩
  ·exact h.elim
 | neg x=>
  simp only[gI]at h
  split at h
  ·rename_i a ha;exact⟨_,_,h,fun s' hs=>by simp [gI,ha]⟩
  ·exact h.elim
 | make e b z l c=>
  simp only[gI]at h
  split at h
  ·rename_i a b' ha hb;exact⟨_,_,h.2,fun s' hs=>by simp only[gI,ha,hb];exact⟨h.1,by simp⟩⟩
  ·exact h.elim
 | slc e x lo hi=>
  simp only[gI]at h
  split at h
  ·rename_i k off n hev
   split at h
   ·rename_i l hb R hl hh hR;exact⟨_,_,h.2.2,fun s' hs=>by simp only[gI,hev,hl,hh,hs _ _ hR];exact⟨h.1,h.2.1,by simp⟩⟩
   ·exact h.elim
  ·rename_i n cs hev
   split at h
   ·rename_i l hb hl hh;exact⟨_,_,h.2,fun s' hs=>by simp only[gI,hev,hl,hh];exact⟨h.1,by simp⟩⟩
   ·exact h.elim
  ·rename_i hev
   split at h
   ·rename_i l hb hl hh;exact⟨_,_,h.2,fun s' hs=>by simp only[gI,hev,hl,hh];exact⟨h.1,by simp⟩⟩
   ·exact h.elim
  ·exact h.elim
 | fld off x=>
  simp only[gI]at h
  split at h
  ·rename_i k o hev;exact⟨_,_,h,fun s' hs=>by simp [gI,hev]⟩
  ·rename_i l o hev;exact⟨_,_,h,fun s' hs=>by simp [gI,hev]⟩
  ·exact h.elim
 | idx e x j=>
  simp only[gI]at h
  split at h
  ·rename_i k off n j hev hj;exact⟨_,_,h.2,fun s' hs=>by simp only[gI,hev,hj];exact⟨h.1,by simp⟩⟩
  ·rename_i n l j hev hj;exact⟨_,_,h.2,fun s' hs=>by simp only[gI,hev,hj];exact⟨h.1,by simp⟩⟩
  ·rename_i k j0 j hev hj
   split at h
   ·rename_i R hR
    split at h
    ·rename_i n l hc;exact⟨_,_,h.2,fun s' hs=>by simp only[gI,hev,hj,hs _ _ hR,hc];exact⟨h.1,by simp⟩⟩
    ·exact h.elim
   ·exact h.elim
  ·exact h.elim
 | ext j x=>
  simp only[gI]at h
  split at h
  ·rename_i l hev
   split at h
   ·rename_i y hy;exact⟨_,_,h,fun s' hs=>by simp [gI,hev,hy]⟩
   ·exact h.elim
  ·exact h.elim
 | call f args=>
  simp only[gI]at h
  rcases h with ⟨ds,res,σ1,h1,h2,h3,h4⟩ | ⟨M,σv,ds,res,h1,h2,h3,h4,h5,h6,h7,h8⟩
  ·exact⟨_,_,h4,fun s' hs=>.inl ⟨ds,res,σ1,xG hs h1,h2,h3,rfl,rfl⟩⟩
  ·refine⟨_,_,h8,fun s' hs=>.inr ⟨M,σv,ds,res,h1,E1 hs h2, ?_,h4,h5,h6,h7,rfl,rfl⟩⟩
   rw[← h3]
   refine List.map_congr_left fun k hk=> ?_
   obtain⟨i,hi⟩:=List.getElem?_of_mem hk
   have hx:σv[i]? =some (s k):=by rw[← h3,List.getElem?_map,hi];rfl
   obtain⟨R,e,_⟩:=mB h4 hx
   rw[e,hs k R e]
 | mkc f l=>exact⟨_,_,h,fun s' hs=>⟨rfl,rfl⟩⟩
 | cvl x args=>
  simp only[gI]at h
  split at h
  ·rename_i f l hev
   obtain⟨h0,ds,res,σ1,h1,h2,h3,h4⟩:=h
   exact⟨_,_,h4,fun s' hs=>by simp only[gI,hev];exact⟨h0,ds,res,σ1,xG hs h1,h2,h3,rfl,rfl⟩⟩
  ·exact h.elim
 | app e b z x y=>
  simp only[gI]at h
  split at h
  ·rename_i hev
   split at h
   ·rename_i m hm
    split at h
    ·rename_i l hl;exact⟨_,_,h.2,fun s' hs=>by simp only[gI,hev,xl hs hm,AZ hs hl];exact⟨h.1,by simp⟩⟩
    ·exact h.elim
   ·exact h.elim
  ·exact h.elim
 | aix e n x i=>
  simp only[gI]at h
  split at h
  ·rename_i k o j h1 h2;exact⟨_,_,h.2,fun s' hs=>by simp only[gI,h1,h2];exact⟨h.1,by simp⟩⟩
  ·rename_i l o j h1 h2;exact⟨_,_,h.2,fun s' hs=>by simp only[gI,h1,h2];exact⟨h.1,by simp⟩⟩
  ·exact h.elim
 | ixa n x i=>
  simp only[gI]at h
  split at h
  ·rename_i l j h1 h2
   split at h
   ·rename_i y hy;exact⟨_,_,h.2,fun s' hs=>by simp only[gI,h1,h2,hy];exact⟨h.1,by simp⟩⟩
   ·exact h.elim
  ·exact h.elim
 | nck x=>
  simp only[gI]at h
  split at h
  ·rename_i k o h1;exact⟨_,_,h,fun s' hs=>by simp [gI,h1]⟩
  ·rename_i k o h1;exact⟨_,_,h,fun s' hs=>by simp [gI,h1]⟩
  ·rename_i k j o h1;exact⟨_,_,h,fun s' hs=>by simp [gI,h1]⟩
  ·exact h.elim
 | fdv off n ag x=>
  simp only[gI]at h
  split at h
  ·rename_i l h1
   split at h
   ·rename_i h2;exact⟨_,_,h.2,fun s' hs=>by simp [gI,h1,h2,h.1]⟩
   ·rename_i h2
    split at h
    ·rename_i y hy;exact⟨_,_,h,fun s' hs=>by simp [gI,h1,h2,hy]⟩
    ·exact h.elim
  ·exact h.elim
 | isn neg x y=>
  simp only[gI]at h
  split at h
  ·rename_i h1 h2;exact⟨_,_,h,fun s' hs=>by simp [gI,h1,h2]⟩
  ·rename_i h1 h2;exact⟨_,_,h.2,fun s' hs=>by simp [gI,h1,h2,h.1]⟩
  ·exact h.elim
 | eqs neg n x y=>
  simp only[gI]at h
  split at h
  ·rename_i l m h1 h2
   split at h
   ·rename_i a b ha hb;exact⟨_,_,h.2,fun s' hs=>by simp [gI,h1,h2,ha,hb,h.1]⟩
   ·exact h.elim
  ·exact h.elim
 | len x=>
  simp only[gI]at h
  split at h
  ·rename_i n hn;exact⟨_,_,h,fun s' hs=>by simp [gI,xl hs hn]⟩
  ·exact h.elim
 | lens x=>
  simp only[gI]at h
  split at h
  ·rename_i b hb;exact⟨_,_,h,fun s' hs=>by simp [gI,hb]⟩
  ·exact h.elim
 | mnx m x y=>
  simp only[gI]at h
  split at h
  ·rename_i a b ha hb;exact⟨_,_,h,fun s' hs=>by simp [gI,ha,hb]⟩
  ·exact h.elim
 | _=>exact h.elim
theorem j7 {o:Oper} {i:I} (hc:cOp P o.op=some i) {K:AV→Sto→Prop} (h:gI P s ev k0 i K):
  ∃ r news,K r news∧∀ s':St,(∀ k R,s k=some R→s' k=some R)→∀ γ φ τ w (ρ:Operand→Value),Sim γ φ τ w→(∀ k R,τ k=some R→s' k=some R)→(∀ j,j<news.length→τ (k0+j)=none)→
   (∀ X Y,cO X=some Y→X∈o.op.operands.toList→Rel w γ φ τ (ev Y) (ρ X))→Fix ρ→Exec P (GPost γ φ τ w k0 r news) ((execOp ρ o).run P w):=by
 obtain⟨r,n,hK,hup⟩:=Kn h
 refine⟨r,n,hK,fun s' hs=> ?_⟩
 obtain⟨r',n',⟨rfl,rfl⟩,hsound⟩:=zo hc (hup s' hs)
 exact hsound
end
end Go.Lift
namespace Go.Lift
open Go.RowKit
theorem ui (acc:List Nat):∀ (es:List Nat) (s i:Nat),(es.foldl (fun s e=>s||| 2 ^ e||| acc.getD e 0) s).testBit i=true→s.testBit i=true∨∃ e∈es,e=i∨(acc.getD e 0).testBit i=true
 | [],s,i,h=>.inl h
 | e :: es,s,i,h=>by
  rcases ui acc es _ i h with h | ⟨e',he,h⟩
  ·simp only[Nat.testBit_or,Bool.or_eq_true,Nat.testBit_two_pow,decide_eq_true_eq]at h
   rcases h with (h | h) | h
   ·exact .inl h
   ·exact .inr ⟨e,by simp,.inl h⟩
   ·exact .inr ⟨e,by simp,.inr h⟩
  ·exact .inr ⟨e',by simp [he],h⟩
theorem uh:∀ (l:List Oper) (acc:List Nat),(∀ e,e<acc.length→(aK acc l)[e]? =acc[e]?)∧
  ∀ (d:Nat) (o:Oper),l[d]? =some o→∀ i,((aK acc l).getD (acc.length+d) 0).testBit i=true→i∈edg o∨∃ e∈edg o,e<acc.length+d∧((aK acc l).getD e 0).testBit i=true
 | [],acc=>by simp [aK]
 | o :: l,acc=>by
  obtain⟨h1,h2⟩:=uh l (acc++[Ai acc (edg o)])
  have hold:∀ e,e<acc.length→(aK acc (o :: l))[e]? =acc[e]? :=by
   intro e he
   simp only[aK]
   rw[h1 e (by simp;omega),List.getElem?_append_left he]
  refine⟨hold,fun d o' hd i hi=> ?_⟩
  cases d with
  | zero=>
   simp at hd
   subst hd
   have hme:(aK acc (o :: l)).getD (acc.length+0) 0=Ai acc (edg o):=by
    simp only[aK,Nat.add_zero]
    rw[zq,h1 acc.length (by simp)]
    simp
   rw[hme]at hi
   rcases ui acc (edg o) 0 i hi with h | ⟨e,he,h⟩
   ·simp at h
   ·rcases h with rfl | h
    ·exact .inl he
    ·refine .inr ⟨e,he, ?_⟩
     by_cases hlt:e<acc.length
     ·refine⟨by omega, ?_⟩
      rw[zq,hold e hlt, ← zq]
      exact h
     ·rw[zq,List.getElem?_eq_none (by omega)]at h
      simp at h
  | succ d=>
   simp only[aK]at hi ⊢
   have:=h2 d o' (by simpa using hd) i (by simp only[List.length_append,List.length_singleton];rw[show acc.length+1+d=acc.length+(d+1)by omega];exact hi)
   simp only[List.length_append,List.length_singleton]at this
   rwa [show acc.length+1+d=acc.length+(d+1)by omega]at this
def Closed (ops:List Oper) (listed:Array Bool):Prop:=∀ (j:Nat) (o:Oper),ops[j]? =some o→listed.getD j false=true→∀ e∈edg o,listed.getD e false=true
theorem bf {ops:List Oper} {listed:Array Bool} (hc:Closed ops listed) {o:Oper} {j:Nat} (hj:ops[j]? =some o) (he:∀ e∈edg o,listed.getD e false=true) {i:Nat} (hi:((aK [] ops).getD j 0).testBit i=true):listed.getD i false=true:=by
 induction j using Nat.strongRecOn generalizing o with
 | _ j ih=>
  have:=(uh ops []).2 j o hj i (by simpa using hi)
  rcases this with h | ⟨e,h1,h2,h3⟩
  ·exact he i h
  ·simp only[zn,Nat.zero_add]at h2
   have hle:e<ops.length:=by
    have:=(List.getElem?_eq_some_iff.1 hj).1
    omega
   exact ih e h2 (zg hle) (fun e' he'=>hc e _ (zg hle) (he e h1) e' he') h3
def aQ (ops:List Oper) (R:Nat→AV) (env:List AV):Nat→List AV
 | 0=>env
 | i+1=>put (aQ ops R env i) (bi ops i) (R i)
def stAt (N:Nat→Sto) (σ:Sto):Nat→Sto
 | 0=>σ
 | i+1=>stAt N σ i++N i
def Step1 (P:Program) (all:List Oper) (o:Oper) (env:List AV) (σ:Sto) (r:AV) (news:Sto) (wt:Bool):Prop:=
 (∃ g,cG all o.guard=some g∧gd g env (wt=true) (wt=false))∧
 (wt=false→r=.und∧news=[])∧
 (wt=true→∀ s':St,(∀ k R,at_ σ k=some R→s' k=some R)→∀ γ φ τ w (ρ:Operand→Value),Sim γ φ τ w→(∀ k R,τ k=some R→s' k=some R)→(∀ j,j<news.length→τ (σ.length+j)=none)→
   (∀ X Y,cO X=some Y→X∈o.op.operands.toList→Rel w γ φ τ (O.ev env Y) (ρ X))→Fix ρ→Exec P (GPost γ φ τ w σ.length r news) ((execOp ρ o).run P w))
theorem gG {P:Program} {all:List Oper}:∀ (l:List Oper) (l':List Ins),bj P all l=some l'→∀ {env:List AV} {σ:Sto} {K:List AV→Sto→Prop},runG P l' env σ K→
  ∃ (R:Nat→AV) (N:Nat→Sto) (W:Nat→Bool),K (aQ l R env l.length) (stAt N σ l.length)∧∀ (i:Nat) (o:Oper),l[i]? =some o→Step1 P all o (aQ l R env i) (stAt N σ i) (R i) (N i) (W i)
 | [],l',hc,env,σ,K,h=>by
  simp only[bj,zj]at hc
  subst hc
  exact⟨fun _=>.und,fun _=>[],fun _=>false,h,fun i o hi=>by simp at hi⟩
 | o :: l,l',hc,env,σ,K,h=>by
  simp only[bj]at hc
  split at hc
  ·rename_i ins m hi hm
   simp only[zj]at hc
   subst hc
   unfold cIns at hi
   split at hi
   ·rename_i i g hop hg
    simp only[zj]at hi
    subst hi
    simp only[runG]at h
    have shift:∀ (r:AV) (n:Sto) (R:Nat→AV) (N:Nat→Sto),(∀ j,aQ (o :: l) (fun i=>match i with | 0=>r | i+1=>R i) env (j+1)=aQ l R (put env o.dst r) j)∧(∀ j,stAt (fun i=>match i with | 0=>n | i+1=>N i) σ (j+1)=stAt N (σ++n) j):=by
     intro r n R N
     refine⟨fun j=> ?_,fun j=> ?_⟩
     ·induction j with
      | zero=>rfl
      | succ j ih=>rw[aQ,ih];rfl
     ·induction j with
      | zero=>rfl
      | succ j ih=>rw[stAt,ih];rfl
    have done:∀ (r:AV) (n:Sto) (wt:Bool),Step1 P all o env σ r n wt→runG P m (put env o.dst r) (σ++n) K→∃ (R:Nat→AV) (N:Nat→Sto) (W:Nat→Bool),K (aQ (o :: l) R env (o :: l).length) (stAt N σ (o :: l).length)∧
      ∀ (i:Nat) (o':Oper),(o :: l)[i]? =some o'→Step1 P all o' (aQ (o :: l) R env i) (stAt N σ i) (R i) (N i) (W i):=by
     intro r n wt h1 h2
     obtain⟨R,N,W,hK,hst⟩:=gG l m hm h2
     obtain⟨he,hs⟩:=shift r n R N
     refine⟨fun i=>match i with | 0=>r | i+1=>R i,fun i=>match i with | 0=>n | i+1=>N i,fun i=>match i with | 0=>wt | i+1=>W i, ?_,fun i o' hi=> ?_⟩
     ·rw[Zl,he,hs]
      exact hK
     ·cases i with
      | zero=>simp at hi;subst hi;exact h1
      | succ i=>rw[he,hs];exact hst i o' (by simpa using hi)
    have hcase:(gd g env True False∧gI P (at_ σ) (O.ev env) σ.length i (fun r news=>runG P m (put env o.dst r) (σ++news) K))∨(gd g env False True∧runG P m (put env o.dst .und) σ K):=by
     cases g with
     | none=>exact .inl ⟨trivial,h⟩
     | some tb=>
      obtain⟨t,want⟩:=tb
      simp only[gd]at h ⊢
      split at h
      ·split at h
       ·rename_i hb;exact .inl ⟨by simp [hb],h⟩
       ·rename_i hb;exact .inr ⟨by simp [hb],h⟩
      ·exact .inr ⟨trivial,h⟩
      ·exact h.elim
    have gdmono:∀ {A B A' B':Prop},(A→A')→(B→B')→gd g env A B→gd g env A' B':=by
     intro A B A' B' ha hb hgd
     cases g with
     | none=>exact ha hgd
     | some tb=>
      obtain⟨t,want⟩:=tb
      simp only[gd]at hgd ⊢
      split at hgd
      ·split at hgd
       ·rename_i hx;simp only[hx,if_true];exact ha hgd
       ·rename_i hx;simp only[hx,if_false];exact hb hgd
      ·exact hb hgd
      ·exact hgd.elim
    rcases hcase with ⟨hgd,h⟩ | ⟨hgd,h⟩
    ·obtain⟨r,news,hK,hup⟩:=j7 hop h
     exact done r news true ⟨⟨g,hg,gdmono (fun _=>rfl) (fun h=>h.elim) hgd⟩,fun h=>(by cases h),fun _=>hup⟩ hK
    ·exact done .und [] false ⟨⟨g,hg,gdmono (fun h=>h.elim) (fun _=>rfl) hgd⟩,fun _=>⟨rfl,rfl⟩,fun h=>(by cases h)⟩ (by rw[List.append_nil];exact h)
   ·cases hi
  ·cases hc
end Go.Lift
namespace Go.Lift
open Go.RowKit
section
variable {ops : List Oper} {m : Nat} {R : Nat → AV} {N : Nat → Sto} {env : List AV} {σ : Sto}
def aY (ops:List Oper) (m t:Nat):Option Nat:=(List.range m).find? fun j=>bi ops j==some t
theorem aO {t j:Nat} (h:aY ops m t=some j):j<m∧bi ops j=some t:=by
 have h1:=List.find?_some h
 have h2:=List.mem_of_find?_eq_some h
 simp at h1 h2
 exact⟨h2,h1⟩
theorem ix {t:Nat} (h:aY ops m t=none):∀ j,j<m→bi ops j≠some t:=by
 intro j hj
 have:=List.find?_eq_none.1 h j (by simp [hj])
 simpa using this
def Once (ops:List Oper) (m:Nat):Prop:=∀ i j t,i<m→j<m→bi ops i=some t→bi ops j=some t→i=j
theorem cX (i:Nat):(aQ ops R env i).length=env.length:=by
 induction i with
 | zero=>rfl
 | succ i ih=>
  rw[aQ]
  unfold put
  split<;>simp [ih]
theorem lJ (ho:Once ops m):∀ (i:Nat),i≤m→∀ t,t<env.length→(aQ ops R env i).getD t .any=match aY ops m t with
  | some j=>if j<i then R j else env.getD t .any
  | none=>env.getD t .any
 | 0,_,t,ht=>by
  simp only[aQ,Nat.not_lt_zero,if_false]
  split<;>rfl
 | i+1,hi,t,ht=>by
  have ih:=lJ ho i (by omega) t ht
  rw[aQ]
  cases hd:bi ops i with
  | none=>
   simp only[put]
   rw[ih]
   split
   ·rename_i j hj
    have:=aO hj
    have hne:j≠i:=fun e=>by rw[e,hd]at this;cases this.2
    by_cases h:j<i
    ·rw[if_pos h,if_pos (by omega)]
    ·rw[if_neg h,if_neg (by omega)]
   ·rfl
  | some d=>
   simp only[put]
   by_cases e:d=t
   ·subst e
    have hw:aY ops m d=some i:=by
     cases hw:aY ops m d with
     | none=>exact absurd hd (ix hw i (by omega))
     | some j=>
      have:=aO hw
      rw[ho j i d this.1 (by omega) this.2 hd]
    rw[hw]
    simp only[Nat.lt_succ_self,if_true]
    rw[zq,List.getElem?_set,if_pos rfl,if_pos (by rw[cX];exact ht)]
    rfl
   ·rw[zq,List.getElem?_set,if_neg e, ← zq,ih]
    split
    ·rename_i j hj
     have:=aO hj
     have hne:j≠i:=fun e'=>by rw[e',hd]at this;exact e (by simpa using this.2)
     by_cases h:j<i
     ·rw[if_pos h,if_pos (by omega)]
     ·rw[if_neg h,if_neg (by omega)]
    ·rfl
def valX (ops:List Oper) (m:Nat) (R:Nat→AV) (env:List AV) (listed:Array Bool) (t:Nat):AV:=match aY ops m t with
 | some j=>if listed.getD j false=true then R j else .any
 | none=>env.getD t .any
theorem lh (i d:Nat):∃ l,stAt N σ (i+d)=stAt N σ i++l:=by
 induction d with
 | zero=>exact⟨[],by simp⟩
 | succ d ih=>
  obtain⟨l,hl⟩:=ih
  exact⟨l++N (i+d),by rw[← Nat.add_assoc,stAt,hl,List.append_assoc]⟩
theorem AY {i j:Nat} (h:i≤j):(stAt N σ i).length≤(stAt N σ j).length:=by
 obtain⟨l,hl⟩:=lh (N:=N) (σ:=σ) i (j-i)
 rw[show i+(j-i)=j by omega]at hl
 rw[hl]
 simp
theorem DB {i:Nat} (h:i≤m):∀ k Rt,at_ (stAt N σ i) k=some Rt→at_ (stAt N σ m) k=some Rt:=by
 intro k Rt hk
 obtain⟨l,hl⟩:=lh (N:=N) (σ:=σ) i (m-i)
 rw[show i+(m-i)=m by omega]at hl
 rw[hl]
 simp only[at_]at hk ⊢
 have:k<(stAt N σ i).length:=by
  by_cases hlt:k<(stAt N σ i).length
  ·exact hlt
  ·rw[List.getElem?_eq_none (by omega)]at hk;cases hk
 rw[List.getElem?_append_left this]
 exact hk
theorem Ig {i:Nat} (h:i<m) (d:Nat) (hd:d<(N i).length):at_ (stAt N σ m) ((stAt N σ i).length+d)=((N i)[d]?).join:=by
 obtain⟨l,hl⟩:=lh (N:=N) (σ:=σ) (i+1) (m-(i+1))
 rw[show i+1+(m-(i+1))=m by omega]at hl
 rw[hl]
 simp only[at_,stAt]
 rw[List.getElem?_append_left (by simp;omega),List.getElem?_append_right (by omega)]
 congr 2
 omega
def stX (m:Nat) (N:Nat→Sto) (σ:Sto) (listed:Array Bool):St:=fun k=>
 if k<σ.length∨((List.range m).any fun j=>listed.getD j false&&decide ((stAt N σ j).length≤k)&&decide (k<(stAt N σ (j+1)).length))=true then at_ (stAt N σ m) k else none
theorem sY (listed:Array Bool):∀ k Rt,stX m N σ listed k=some Rt→at_ (stAt N σ m) k=some Rt:=by
 intro k Rt h
 unfold stX at h
 split at h
 ·exact h
 ·cases h
theorem lT {listed:Array Bool} {k:Nat}:((List.range m).any fun j=>listed.getD j false&&decide ((stAt N σ j).length≤k)&&decide (k<(stAt N σ (j+1)).length))=true↔∃ j,j<m∧listed.getD j false=true∧(stAt N σ j).length≤k∧k<(stAt N σ (j+1)).length:=by
 simp only[List.any_eq_true,List.mem_range,Bool.and_eq_true,decide_eq_true_eq]
 constructor
 ·rintro⟨j,h1,⟨h2,h3⟩,h4⟩;exact⟨j,h1,h2,h3,h4⟩
 ·rintro⟨j,h1,h2,h3,h4⟩;exact⟨j,h1,⟨h2,h3⟩,h4⟩
theorem pZ {listed:Array Bool} {i:Nat} (hi:i<m) (hun:listed.getD i false=false) (d:Nat) (hd:d<(N i).length):stX m N σ listed ((stAt N σ i).length+d)=none:=by
 unfold stX
 rw[if_neg]
 rintro (h | h)
 ·have:=AY (N:=N) (σ:=σ) (Nat.zero_le i)
  simp only[stAt]at this
  omega
 ·obtain⟨j,h1,h2,h3,h4⟩:=lT.1 h
  have hne:j≠i:=fun e=>by rw[e,hun]at h2;cases h2
  rcases Nat.lt_or_ge j i with hji | hji
  ·have:=AY (N:=N) (σ:=σ) (show j+1≤i by omega)
   omega
  ·have h5:=AY (N:=N) (σ:=σ) (show i+1≤j by omega)
   simp only[stAt,List.length_append]at h5
   omega
theorem al {listed:Array Bool} {i j:Nat} (hi:i<listed.size):(listed.setIfInBounds i true).getD j false=(decide (j=i)||listed.getD j false):=by
 rw[Array.getD_eq_getD_getElem?,Array.getElem?_setIfInBounds]
 by_cases e:i=j
 ·subst e;simp [hi]
 ·rw[if_neg e, ← Array.getD_eq_getD_getElem?]
  simp [Ne.symm e]
theorem pY {listed:Array Bool} {i:Nat} (hi:i<m) (hsz:i<listed.size):over (stX m N σ listed) (stAt N σ i).length (N i)=stX m N σ (listed.setIfInBounds i true):=by
 funext k
 unfold over
 have hk1:(stAt N σ (i+1)).length=(stAt N σ i).length+(N i).length:=by simp [stAt]
 split
 ·rename_i h
  have h1:=Ig (N:=N) (σ:=σ) hi (k-(stAt N σ i).length) (by omega)
  rw[show (stAt N σ i).length+(k-(stAt N σ i).length)=k by omega]at h1
  unfold stX
  rw[if_pos (.inr (lT.2 ⟨i,hi,by rw[al hsz];simp,h.1,by omega⟩)),h1]
 ·rename_i h
  unfold stX
  have:(k<σ.length∨((List.range m).any fun j=>listed.getD j false&&decide ((stAt N σ j).length≤k)&&decide (k<(stAt N σ (j+1)).length))=true)↔
    (k<σ.length∨((List.range m).any fun j=>(listed.setIfInBounds i true).getD j false&&decide ((stAt N σ j).length≤k)&&decide (k<(stAt N σ (j+1)).length))=true):=by
   rw[lT,lT]
   refine or_congr Iff.rfl ⟨fun⟨j,h1,h2,h3⟩=>⟨j,h1,by rw[al hsz,h2];simp,h3⟩,fun⟨j,h1,h2,h3⟩=>⟨j,h1, ?_,h3⟩⟩
   rw[al hsz]at h2
   simp only[Bool.or_eq_true,decide_eq_true_eq]at h2
   rcases h2 with rfl | h2
   ·omega
   ·exact h2
  by_cases hc:(k<σ.length∨((List.range m).any fun j=>listed.getD j false&&decide ((stAt N σ j).length≤k)&&decide (k<(stAt N σ (j+1)).length))=true)
  ·rw[if_pos hc,if_pos (this.1 hc)]
  ·rw[if_neg hc,if_neg (fun h=>hc (this.2 h))]
theorem xa {listed:Array Bool} (h:∀ j,j<m→listed.getD j false=true):stX m N σ listed=at_ (stAt N σ m):=by
 funext k
 unfold stX
 split
 ·rfl
 ·rename_i hc
  by_cases hk:k<(stAt N σ m).length
  ·exfalso
   apply hc
   have hge:¬ k<σ.length:=fun h=>hc (.inl h)
   refine .inr (lT.2 ?_)
   have:∀ n,n≤m→k<(stAt N σ n).length→∃ j,j<m∧listed.getD j false=true∧(stAt N σ j).length≤k∧k<(stAt N σ (j+1)).length:=by
    intro n
    induction n with
    | zero=>intro _ h0;exact absurd h0 hge
    | succ n ih=>
     intro hn hlt
     by_cases h':k<(stAt N σ n).length
     ·exact ih (by omega) h'
     ·exact⟨n,by omega,h n (by omega),by omega,hlt⟩
   exact this m (Nat.le_refl _) hk
  ·simp [at_,List.getElem?_eq_none (Nat.le_of_not_lt hk)]
theorem mD {listed:Array Bool} (h:∀ j,j<m→listed.getD j false=false) (hσ:∀ k,k<σ.length→at_ (stAt N σ m) k=at_ σ k):stX m N σ listed=at_ σ:=by
 funext k
 unfold stX
 by_cases hk:k<σ.length
 ·rw[if_pos (.inl hk),hσ k hk]
 ·rw[if_neg]
  ·simp [at_,List.getElem?_eq_none (Nat.le_of_not_lt hk)]
  ·rintro (h' | h')
   ·exact hk h'
   ·obtain⟨j,h1,h2,_⟩:=lT.1 h'
    rw[h j h1]at h2
    cases h2
end
end Go.Lift
namespace Go.Lift
open Go.RowKit
theorem bG {o:Oper} {e:Nat}:e∈edg o↔∃ x∈o.after,Region.binds .any x=true∧x.on=e:=by
 unfold edg
 simp only[List.mem_filterMap,Array.mem_toList_iff]
 constructor
 ·rintro⟨x,hx,h⟩
  split at h
  ·rename_i hb;exact⟨x,hx,hb,by simpa using h⟩
  ·cases h
 ·rintro⟨x,hx,hb,he⟩
  exact⟨x,hx,by rw[if_pos hb,he]⟩
theorem cr {ops:List Oper} {ms:List Nat} {m:Nat} (h:da ops ms m=true) {i:Nat} (hi:i<m):∃ o,ops[i]? =some o∧(∀ e∈edg o,e<i)∧∀ j,j<m→u4 ops ms i j o=true:=by
 have:=List.all_eq_true.1 h i (by simp [hi])
 split at this
 ·rename_i o ho
  simp only[Bool.and_eq_true,List.all_eq_true,decide_eq_true_eq,List.mem_range]at this
  exact⟨o,ho,this.1,this.2⟩
 ·cases this
theorem cA {ops:List Oper} {ms:List Nat} {m:Nat} (h:da ops ms m=true):Once ops m:=by
 intro i j t hi hj h1 h2
 obtain⟨o,ho,_,h3⟩:=cr h hi
 have:=h3 j hj
 unfold u4 at this
 rw[h2]at this
 simp only[bi,ho,Option.bind_some]at h1
 simp only[Bool.and_eq_true,h1,beq_self_eq_true,Bool.not_true,Bool.or_false,beq_iff_eq]at this
 exact this.2
section
variable {P : Program} {ops : List Oper} {m : Nat} {R : Nat → AV} {N : Nat → Sto} {W : Nat → Bool} {env : List AV} {σ : Sto} {γe : Labels} {φ0 : Nat → Nat} {we : World} {σ0 : Sto}
structure HInv (ops:List Oper) (m nf:Nat) (R:Nat→AV) (N:Nat→Sto) (env:List AV) (σ:Sto) (γe:Labels) (φ0:Nat→Nat) (we:World) (σ0:Sto) (listed:Array Bool) (a:Act) (w:World):Prop where
 size:listed.size=ops.length
 tail:∀ t,m≤t→t<nf→listed.getD t false=false
 closed:Closed ops listed
 st:∃ γ φ,Kst γe we γ w∧Sim γ φ (stX m N σ listed) w∧a.tmps.size=env.length∧(∀ t,t<env.length→Rel w γ φ (stX m N σ listed) (valX ops m R env listed t) (a.tmps.getD t undef))∧a.defers=[]∧
  ∀ k Rt,at_ σ0 k=some Rt→Rt.g=false→Stay γe φ0 γ φ k∧∃ R',stX m N σ listed k=some R'∧R'.g=false
theorem ky {a:Act} {dst:Option Nat} {v:Value} {t:Nat} (ht:t<a.tmps.size):(a.put dst v).tmps.getD t undef=if dst=some t then v else a.tmps.getD t undef:=by
 cases dst with
 | none=>simp [Act.put]
 | some d=>
  simp only[Act.put,zj]
  rw[Array.getD_eq_getD_getElem?,Array.getElem?_setIfInBounds,Array.getD_eq_getD_getElem?]
  by_cases e:d=t
  ·subst e;simp [ht]
  ·rw[if_neg e,if_neg e]
theorem Exec.mono {P:Program} {Q Q':Value→World→Prop} {r:Result Next} (h:Exec P Q r) (hq:∀ v w,Q v w→Q' v w):Exec P Q' r:=ce.Exec.mono h hq
theorem wA (hpre:da ops (aK [] ops) m=true) (hst:∀ (i:Nat) (o:Oper),i<m→ops[i]? =some o→Step1 P ops o (aQ ops R env i) (stAt N σ i) (R i) (N i) (W i))
  {nf:Nat} {listed:Array Bool} {a:Act} {w:World} (hI:HInv ops m nf R N env σ γe φ0 we σ0 listed a w) {i:Nat} (him:i<m) (hr:i∈Region.ready .any ops.toArray listed):
  ∃ o,ops[i]? =some o∧Region.wanted o (yielded ops.toArray a.tmps)=W i∧(W i=false→HInv ops m nf R N env σ γe φ0 we σ0 (listed.setIfInBounds i true) (a.put o.dst undef) w)∧
   (W i=true→Exec P (fun v w'=>HInv ops m nf R N env σ γe φ0 we σ0 (listed.setIfInBounds i true) (a.put o.dst v) w') ((execOp a.eval o).run P w)):=by
 obtain⟨hun,oi,hoi,hall⟩:=mem_ready.1 hr
 have hunf:=getD_both hun
 obtain⟨o,ho,hedge,hpre1⟩:=cr hpre him
 have hoi':ops[i]? =some oi:=by simpa using hoi
 rw[ho]at hoi'
 obtain rfl:o=oi:=by simpa using hoi'
 have hone:=cA hpre
 have hall':∀ e∈edg o,listed.getD e false=true:=fun e he=>by
  obtain⟨x,hx,hb,rfl⟩:=bG.1 he
  exact hall x hx hb
 have hlt:i<ops.length:=(List.getElem?_eq_some_iff.1 ho).1
 have hsz:i<listed.size:=by rw[hI.size];exact hlt
 obtain⟨γ,φ,hK,hS,htl,hrel,hd,hfix⟩:=hI.st
 obtain⟨⟨g,hg,hgd⟩,hskip,hexec⟩:=hst i o him ho
 have hdst:bi ops i=o.dst:=by simp [bi,ho]
 have hslot:∀ t,t∈aR ops o→Rel w γ φ (stX m N σ listed) ((aQ ops R env i).getD t .any) (a.tmps.getD t undef):=by
  intro t ht
  by_cases htlen:t<env.length
  ·rw[lJ hone i (by omega) t htlen]
   have hv:=hrel t htlen
   unfold valX at hv
   cases hw:aY ops m t with
   | none=>rw[hw]at hv;exact hv
   | some j=>
    rw[hw]at hv
    have hws:=aO hw
    have hp:=hpre1 j hws.1
    unfold u4 at hp
    rw[hws.2]at hp
    have hcont:(aR ops o).contains t=true:=by simpa using ht
    simp only[hcont,Bool.not_true,Bool.false_or,Bool.and_eq_true,decide_eq_true_eq]at hp
    have hlj:listed.getD j false=true:=bf hI.closed ho hall' hp.1.2
    simp only[hlj,if_true]at hv
    simp only[hp.1.1,if_true]
    exact hv
  ·rw[zq,List.getElem?_eq_none (by rw[cX];omega)]
   simp [Rel]
 have hwant:Region.wanted o (yielded ops.toArray a.tmps)=W i:=by
  rcases qB (ops:=ops.toArray) (a:=a) hg hgd (fun t want hgt=>hslot t (by
    subst hgt
    unfold aR ze
    cases hgo:o.guard with
    | none=>rw[hgo]at hg;simp [cG]at hg
    | some jb=>
     obtain⟨j,b⟩:=jb
     rw[hgo]at hg
     simp only[cG]at hg
     split at hg
     ·rename_i oj hoj
      split at hg
      ·rename_i t' ht'
       simp only[zj,Prod.mk.injEq]at hg
       simp [hoj,ht',hg.1]
      ·cases hg
     ·cases hg))with ⟨h1,h2⟩ | ⟨h1,h2⟩
  ·rw[h1,h2]
  ·rw[h1,h2]
 have hnext:∀ v w' γ' φ',Kst γ w γ' w'→Live w γ φ (stX m N σ listed) w' γ' φ' (over (stX m N σ listed) (stAt N σ i).length (N i))→Sim γ' φ' (over (stX m N σ listed) (stAt N σ i).length (N i)) w'→Rel w' γ' φ' (over (stX m N σ listed) (stAt N σ i).length (N i)) (R i) v→
   HInv ops m nf R N env σ γe φ0 we σ0 (listed.setIfInBounds i true) (a.put o.dst v) w':=by
  intro v w' γ' φ' hK' hL hS' hR'
  rw[pY him hsz]at hL hS' hR'
  refine⟨by simp [hI.size],fun t h1 h2=> ?_,fun j oj hj hlj e he=> ?_,γ',φ',hK.trans hK',hS', ?_,fun t ht=> ?_, ?_,fun k Rt hk hgk=> ?_⟩
  ·rw[al hsz,hI.tail t h1 h2]
   simp
   omega
  ·rw[al hsz]at hlj ⊢
   simp only[Bool.or_eq_true,decide_eq_true_eq]at hlj ⊢
   rcases hlj with rfl | hlj
   ·rw[ho]at hj
    obtain rfl:o=oj:=by simpa using hj
    exact .inr (hall' e he)
   ·exact .inr (hI.closed j oj hj hlj e he)
  ·cases o.dst<;>simp [Act.put,htl]
  ·rw[ky (by rw[htl];exact ht)]
   by_cases hdt:o.dst=some t
   ·rw[if_pos hdt]
    have hw:aY ops m t=some i:=by
     cases hw:aY ops m t with
     | none=>exact absurd (by rw[hdst];exact hdt) (ix hw i him)
     | some j=>
      have hws:=aO hw
      rw[hone j i t hws.1 him hws.2 (by rw[hdst];exact hdt)]
    unfold valX
    rw[hw]
    simp only[al hsz,decide_true,Bool.true_or,if_true]
    exact hR'
   ·rw[if_neg hdt]
    have hv:=Rel.mono hK' hL _ _ (hrel t ht)
    have:valX ops m R env (listed.setIfInBounds i true) t=valX ops m R env listed t:=by
     unfold valX
     cases hw:aY ops m t with
     | none=>rfl
     | some j=>
      have hws:=aO hw
      have hne:j≠i:=fun e=>by rw[e,hdst]at hws;exact hdt hws.2
      simp only[al hsz,decide_eq_false hne,Bool.false_or]
    rw[this]
    exact hv
  ·cases o.dst<;>simpa [Act.put]using hd
  ·obtain⟨h1,R1,h2,h3⟩:=hfix k Rt hk hgk
   obtain⟨h4,R2,h5,_,h6,h7,_⟩:=hL k R1 h2
   exact⟨h1.trans ⟨h4,h7⟩,R2,h5,goff h6 h3⟩
 refine⟨o,ho,hwant,fun hWi=> ?_,fun hWi=> ?_⟩
 ·obtain⟨h1,h2⟩:=hskip hWi
  refine hnext undef w γ φ (Kst.refl _ _) ?_ ?_ ?_
  ·rw[h2,eI];exact Live.refl _ _ _ _
  ·rw[h2,eI];exact hS
  ·rw[h1];simp [Rel]
 ·have hex:=hexec hWi (at_ (stAt N σ m)) (DB (Nat.le_of_lt him)) γ φ (stX m N σ listed) w a.eval hS (sY listed) (fun d hd'=>pZ him hunf d hd') (fun X Y hc hX=>by
   cases X with
   | tmp t=>
    simp only[cO,zj]at hc
    subst hc
    refine hslot t ?_
    unfold aR
    refine List.mem_append.2 (.inl (List.mem_filterMap.2 ⟨.tmp t,hX,rfl⟩))
   | const v=>
    simp only[cO,zj]at hc
    subst hc
    exact qQ v
   | global g=>simp [cO]at hc
   | func f=>simp [cO]at hc) ⟨fun _=>rfl,fun _=>rfl⟩
  exact Exec.mono hex fun v w' hq=>by
   obtain⟨γ',φ',hK',hL,hS',hR'⟩:=hq
   exact hnext v w' γ' φ' hK' hL hS' hR'
theorem ot {Q:Exit→Act→World→Prop} (hpre:da ops (aK [] ops) m=true) (hst:∀ (i:Nat) (o:Oper),i<m→ops[i]? =some o→Step1 P ops o (aQ ops R env i) (stAt N σ i) (R i) (N i) (W i))
  {nf:Nat} {listed:Array Bool} {a:Act} {w:World} (hI:HInv ops m nf R N env σ γe φ0 we σ0 listed a w) {i:Nat} (him:i<m) (hr:i∈Region.ready .any ops.toArray listed):
  wpOp P ops.toArray Q i (HInv ops m nf R N env σ γe φ0 we σ0 (listed.setIfInBounds i true)) a w:=by
 obtain⟨o,ho,hw,h1,h2⟩:=wA hpre hst hI him hr
 unfold wpOp
 rw[show ops.toArray[i]? =some o by simpa using ho]
 simp only[]
 cases hWi:W i with
 | false=>
  rw[if_neg (by simp [hw,hWi])]
  exact h1 hWi
 | true=>
  rw[if_pos (by rw[hw,hWi])]
  exact .inl (Exec.upon (h2 hWi) fun v w' hq=>hq)
end
end Go.Lift
namespace Go.Lift
open Go.RowKit
section
variable {P : Program} {γe : Labels} {φ0 : Nat → Nat} {we : World} {σ0 : Sto}
theorem cB {all:List Oper}:∀ (l:List Oper) (l':List Ins) (m:Nat),bj P all l=some l'→bj P all (l.take m)=some (l'.take m)∧bj P all (l.drop m)=some (l'.drop m)
 | l,l',0,h=>by simp [bj,h]
 | [],l',m+1,h=>by
  simp only[bj,zj]at h
  subst h
  simp [bj]
 | o :: l,l',m+1,h=>by
  simp only[bj]at h
  split at h
  ·rename_i i r hi hr
   simp only[zj]at h
   subst h
   obtain⟨h1,h2⟩:=cB l r m hr
   simp [bj,hi,h1,h2]
  ·cases h
def unl (m:Nat) (listed:Array Bool):Nat:=((List.range m).filter fun j=> !listed.getD j false).length
theorem lg {m i:Nat} {listed:Array Bool} (hi:i<m) (hsz:i<listed.size) (hun:listed.getD i false=false):unl m listed=unl m (listed.setIfInBounds i true)+1:=by
 unfold unl
 have key:∀ n,i<n→((List.range n).filter fun j=> !listed.getD j false).length=((List.range n).filter fun j=> !(listed.setIfInBounds i true).getD j false).length+1:=by
  intro n
  induction n with
  | zero=>intro h;omega
  | succ n ih=>
   intro h
   rw[List.range_succ,List.filter_append,List.filter_append,List.length_append,List.length_append]
   by_cases e:n=i
   ·subst e
    have hsame:∀ q,q≤n→((List.range q).filter fun j=> !listed.getD j false)=((List.range q).filter fun j=> !(listed.setIfInBounds n true).getD j false):=by
     intro q hq
     apply List.filter_congr
     intro j hj
     have:j<q:=by simpa using hj
     rw[al hsz,decide_eq_false (show ¬ j=n by omega)]
     simp
    rw[hsame n (Nat.le_refl _)]
    simp only[List.filter_cons,List.filter_nil,hun,al hsz,decide_true,Bool.true_or,Bool.not_true,Bool.not_false,if_true,Bool.false_eq_true,if_false,Zl,zn]
   ·have h1:=ih (by omega)
    rw[h1]
    simp only[List.filter_cons,List.filter_nil,al hsz,decide_eq_false e,Bool.false_or]
    split<;>simp<;>omega
 exact key m hi
theorem pL (n m j:Nat):(cK n m).getD j false=(decide (j<n)&&decide (j<m)):=by
 unfold cK
 rw[Array.getD_eq_getD_getElem?]
 simp only[List.getElem?_toArray,List.getElem?_map]
 by_cases h:j<n
 ·simp [h]
 ·simp [h]
theorem wI {ops:List Oper} {m:Nat} {R:Nat→AV} {N:Nat→Sto} {env:List AV} {σ:Sto} {Q:Exit→Act→World→Prop} (hpre:da ops (aK [] ops) m=true) (hm:m≤ops.length)
  (hseq:Region.seqB .any ops.toArray (ops.length-m) m (cK ops.length m)=true)
  (hend:∀ a w,SR γe φ0 we σ0 (aQ ops R env m) (stAt N σ m) a w→wpList P ops.toArray Q (ops.drop m) a w)
  (listed:Array Bool) (a:Act) (w:World) (hI:HInv ops m ops.length R N env σ γe φ0 we σ0 listed a w) (hf:unl m listed=0):wpAny P .any ops.toArray Q (0+(ops.length-m)) listed a w:=by
 have hall:∀ j,j<m→listed.getD j false=true:=by
  intro j hj
  have h0:=List.eq_nil_of_length_eq_zero hf
  rw[List.filter_eq_nil_iff]at h0
  have:=h0 j (by simp [hj])
  simpa using this
 have hcan:listed=cK ops.length m:=by
  apply Array.ext
  ·simp [cK,hI.size]
  ·intro i h1 h2
   have e1:listed[i]=listed.getD i false:=by simp [h1]
   have e2:(cK ops.length m)[i]=(cK ops.length m).getD i false:=by simp [h2]
   rw[e1,e2,pL]
   have hin:i<ops.length:=by rw[← hI.size];exact h1
   by_cases hi:i<m
   ·rw[hall i hi];simp [hin,hi]
   ·rw[hI.tail i (by omega) hin];simp [hi]
 obtain⟨γ,φ,hK,hS,htl,hrel,hd,hfix⟩:=hI.st
 rw[xa hall]at hS hrel hfix
 have hSR:SR γe φ0 we σ0 (aQ ops R env m) (stAt N σ m) a w:=by
  refine⟨γ,φ,hK,hS,RelL.of_get (by simp [cX,htl]) fun t x hx=> ?_,hd,hfix⟩
  have ht:t<env.length:=by
   have:=(List.getElem?_eq_some_iff.1 hx).1
   rwa [cX]at this
  have hv:=hrel t ht
  have he:=lJ (cA hpre) (R:=R) (env:=env) m (Nat.le_refl _) t ht
  rw[zq,hx,Option.getD_some]at he
  refine⟨a.tmps.getD t undef, ?_, ?_⟩
  ·simp [show t<a.tmps.size by omega]
  ·rw[he]
   unfold valX at hv
   cases hw:aY ops m t with
   | none=>rw[hw]at hv;exact hv
   | some j=>
    rw[hw]at hv
    have hws:=aO hw
    simp only[hall j hws.1,if_true]at hv
    simp only[hws.1,if_true]
    exact hv
 have hl:(ops.drop m).length=ops.length-m:=by simp
 rw[Nat.zero_add, ← hl]
 refine wpAny_of_seq (ops.drop m) m listed a w (fun j=>by simp [List.getElem?_drop]) (by rw[hl,hcan];exact hseq) (hend a w hSR)
theorem zA {ops:List Oper} {m:Nat} {R:Nat→AV} {N:Nat→Sto} {W:Nat→Bool} {env:List AV} {σ:Sto} {Q:Exit→Act→World→Prop} (hpre:da ops (aK [] ops) m=true) (hm:m≤ops.length)
  (hfull:∀ t,m≤t→t<ops.length→fullB (aK [] ops) t=true) (hseq:Region.seqB .any ops.toArray (ops.length-m) m (cK ops.length m)=true)
  (hst:∀ (i:Nat) (o:Oper),i<m→ops[i]? =some o→Step1 P ops o (aQ ops R env i) (stAt N σ i) (R i) (N i) (W i))
  (hend:∀ a w,SR γe φ0 we σ0 (aQ ops R env m) (stAt N σ m) a w→wpList P ops.toArray Q (ops.drop m) a w):
  ∀ (f:Nat) (listed:Array Bool) (a:Act) (w:World),HInv ops m ops.length R N env σ γe φ0 we σ0 listed a w→unl m listed=f→wpAny P .any ops.toArray Q (f+(ops.length-m)) listed a w
 | 0,listed,a,w,hI,hf=>wI hpre hm hseq hend listed a w hI hf
 | f+1,listed,a,w,hI,hf=>by
  have hex:∃ j,j<m∧listed.getD j false=false:=by
   cases hfl:(List.range m).filter fun j=> !listed.getD j false with
   | nil=>unfold unl at hf;rw[hfl]at hf;simp at hf
   | cons j l=>
    have:j∈(List.range m).filter fun j=> !listed.getD j false:=by rw[hfl];simp
    simp at this
    exact⟨j,this.1,by simpa using this.2⟩
  have hready:∃ i,i∈Region.ready .any ops.toArray listed:=by
   obtain⟨j,hj,hjf⟩:=hex
   induction j using Nat.strongRecOn with
   | _ j ih=>
    obtain⟨o,ho,hedge,_⟩:=cr hpre hj
    by_cases hall:∀ e∈edg o,listed.getD e false=true
    ·refine⟨j,mem_ready.2 ⟨getD_in (by rw[hI.size];omega) hjf,o,by simpa using ho,fun e he hb=>hall _ (bG.2 ⟨e,he,hb,rfl⟩)⟩⟩
    ·have⟨e,he,hne⟩:∃ e,e∈edg o∧listed.getD e false=false:=by
      false_or_by_contra
      rename_i hc
      apply hall
      intro e he
      cases hb:listed.getD e false with
      | true=>rfl
      | false=>exact absurd ⟨e,he,hb⟩ hc
     exact ih e (hedge e he) (by have:=hedge e he;omega) hne
  have hhead:∀ i,i∈Region.ready .any ops.toArray listed→i<m:=by
   intro i hi
   obtain⟨hun,oi,hoi,hall⟩:=mem_ready.1 hi
   rcases Nat.lt_or_ge i m with h | h
   ·exact h
   ·exfalso
    have hoi':ops[i]? =some oi:=by simpa using hoi
    have hlt:i<ops.length:=(List.getElem?_eq_some_iff.1 hoi').1
    obtain⟨j,hj,hjf⟩:=hex
    have hb:=List.all_eq_true.1 (hfull i h hlt) j (by simp;omega)
    have:=bf hI.closed hoi' (fun e he=>by
     obtain⟨x,hx,hb,rfl⟩:=bG.1 he
     exact hall x hx hb) hb
    rw[hjf]at this
    cases this
  rw[show f+1+(ops.length-m)=(f+(ops.length-m))+1 by omega]
  refine⟨fun h0=> ?_,fun i hi=> ?_⟩
  ·obtain⟨i,hi⟩:=hready
   rw[h0]at hi
   cases hi
  ·have him:=hhead i hi
   obtain⟨hun,oi,hoi,_⟩:=mem_ready.1 hi
   have hoi':ops[i]? =some oi:=by simpa using hoi
   have hlt:i<ops.length:=(List.getElem?_eq_some_iff.1 hoi').1
   refine wpOp_mono (fun a' w' hI'=>zA hpre hm hfull hseq hst hend f _ a' w' hI' ?_) (ot (Q:=Q) hpre hst hI him hi)
   have:=lg him (by rw[hI.size];exact hlt) (getD_both hun)
   omega
theorem Step1.congr {all:List Oper} {o:Oper} {env env':List AV} {s:Sto} {r:AV} {news:Sto} {wt:Bool} (h:Step1 P all o env s r news wt) (he:∀ t,t∈aR all o→env'.getD t .any=env.getD t .any):Step1 P all o env' s r news wt:=by
 obtain⟨⟨g,hg,hgd⟩,h2,h3⟩:=h
 refine⟨⟨g,hg, ?_⟩,h2,fun hw s' hs γ φ τ w ρ hS hsub hdead hr hf=>h3 hw s' hs γ φ τ w ρ hS hsub hdead (fun X Y hc hX=> ?_) hf⟩
 ·cases g with
  | none=>exact hgd
  | some tb=>
   obtain⟨t,b⟩:=tb
   simp only[gd]at hgd ⊢
   rw[he t]
   ·exact hgd
   ·unfold aR ze
    cases hgo:o.guard with
    | none=>rw[hgo]at hg;simp [cG]at hg
    | some jb=>
     obtain⟨j,b'⟩:=jb
     rw[hgo]at hg
     simp only[cG]at hg
     split at hg
     ·rename_i oj hoj
      split at hg
      ·rename_i t' ht'
       simp only[zj,Prod.mk.injEq]at hg
       simp [hoj,ht',hg.1]
      ·cases hg
     ·cases hg
 ·have:=hr X Y hc hX
  cases X with
  | tmp t=>
   simp only[cO,zj]at hc
   subst hc
   simp only[O.ev]at this ⊢
   rwa [he t]at this
   unfold aR
   exact List.mem_append.2 (.inl (List.mem_filterMap.2 ⟨.tmp t,hX,rfl⟩))
  | const v=>
   simp only[cO,zm]at hc
   obtain⟨y,_,rfl⟩:=hc
   exact this
  | global g=>simp [cO]at hc
  | func f=>simp [cO]at hc
def evF (e:List AV) (o:Oper):AV:=match o.op with
 | .move x=>match cO x with
  | some y=>O.ev e y
  | none=>.any
 | .assign x=>match cO x with
  | some y=>O.ev e y
  | none=>.any
 | _=>.any
def flE:List Oper→List AV→List AV
 | [],e=>e
 | o :: q,e=>flE q (put e o.dst (evF e o))
theorem mF {P:Program} {K:List AV→Sto→Prop}:∀ (A B:List Ins) (e:List AV) (s:Sto),runG P (A++B) e s K=runG P A e s fun e s=>runG P B e s K
 | [],B,e,s=>rfl
 | i :: A,B,e,s=>by
  simp only[List.cons_append,runG]
  congr 1
  ·congr 1
   funext r news
   exact mF A B _ _
  ·exact mF A B _ _
theorem gO {o:Oper} (h:oN o=true):(∃ x,o.op=.move x∨o.op=.assign x)∧o.guard=none∧∃ d,o.dst=some d:=by
 unfold oN at h
 simp only[Bool.and_eq_true,Option.isNone_iff_eq_none,Option.isSome_iff_exists]at h
 obtain⟨⟨h1,h2⟩,h3⟩:=h
 refine⟨?_,h2,h3⟩
 split at h1
 ·rename_i x hx;exact⟨x,.inl hx⟩
 ·rename_i x hx;exact⟨x,.inr hx⟩
 ·cases h1
theorem qH {o:Oper} {x:Operand} (h:o.op=.move x∨o.op=.assign x) {y:O} (hy:cO x=some y) (e:List AV):evF e o=O.ev e y:=by
 unfold evF
 rcases h with h | h<;>simp only[h,hy]
theorem runF {P:Program} {all:List Oper} {K:List AV→Sto→Prop}:∀ (q:List Oper) (B:List Ins),bj P all q=some B→(∀ o∈q,oN o=true)→∀ (e:List AV) (s:Sto),runG P B e s K→K (flE q e) s
 | [],B,hc,_,e,s,h=>by
  simp only[bj,zj]at hc
  subst hc
  exact h
 | o :: q,B,hc,hm,e,s,h=>by
  simp only[bj]at hc
  split at hc
  ·rename_i i r hi hr
   simp only[zj]at hc
   subst hc
   obtain⟨⟨x,hx⟩,hg,d,hd⟩:=gO (hm o (by simp))
   unfold cIns at hi
   split at hi
   ·rename_i op g hop hgd
    simp only[zj]at hi
    subst hi
    rw[hg]at hgd
    simp only[cG,zj]at hgd
    subst hgd
    have hop':∃ y,cO x=some y∧op=.mv y:=by
     rcases hx with hx | hx<;>simp only[hx,cOp,zm]at hop<;>(obtain⟨y,hy,rfl⟩:=hop;exact⟨y,hy,rfl⟩)
    obtain⟨y,hy,rfl⟩:=hop'
    simp only[runG,gd,gI,List.append_nil]at h
    rw[← qH hx hy]at h
    exact runF q r hr (fun o ho=>hm o (by simp [ho])) _ s h
   ·cases hi
  ·cases hc
theorem vZ {e:List AV} {dst:Option Nat} {r:AV} {t:Nat} (ht:t<e.length):(put e dst r).getD t .any=if dst=some t then r else e.getD t .any:=by
 cases dst with
 | none=>simp [put]
 | some d=>
  simp only[put,zj,zq,List.getElem?_set]
  by_cases h:d=t
  ·subst h;simp [ht]
  ·simp [h]
theorem oe {e:List AV} {dst:Option Nat} {r:AV}:(put e dst r).length=e.length:=by cases dst<;>simp [put]
theorem xD:∀ (q:List Oper) (e:List AV),(flE q e).length=e.length
 | [],_=>rfl
 | o :: q,e=>by rw[flE,xD q,oe]
theorem AB:∀ (q:List Oper) (e:List AV) (t:Nat),t<e.length→(∀ o∈q,o.dst≠some t)→(flE q e).getD t .any=e.getD t .any
 | [],_,_,_,_=>rfl
 | o :: q,e,t,ht,h=>by
  rw[flE,AB q _ t (by rw[oe];exact ht) (fun o' ho=>h o' (by simp [ho])),vZ ht,if_neg (h o (by simp))]
theorem Hc {o o':Oper} {e:List AV} {r:AV} {all:List Oper} (hm:oN o=true) (h:∀ d,o'.dst=some d→d∉aR all o):evF (put e o'.dst r) o=evF e o:=by
 obtain⟨⟨x,hx⟩,_⟩:=gO hm
 cases hy:cO x with
 | none=>unfold evF;rcases hx with hx | hx<;>simp only[hx,hy]
 | some y=>
  rw[qH hx hy,qH hx hy]
  cases x with
  | tmp t=>
   simp only[cO,zj]at hy
   subst hy
   simp only[O.ev]
   cases hd:o'.dst with
   | none=>rfl
   | some d=>
    have hne:d≠t:=fun e=>h d hd (by
     subst e
     unfold aR
     refine List.mem_append.2 (.inl (List.mem_filterMap.2 ⟨.tmp d, ?_,rfl⟩))
     rcases hx with hx | hx<;>simp [hx,Op.operands])
    simp [put,zq,List.getElem?_set,hne]
  | const v=>
   simp only[cO,zm]at hy
   obtain⟨z,_,rfl⟩:=hy
   rfl
  | global g=>simp [cO]at hy
  | func f=>simp [cO]at hy
theorem Bu {all:List Oper}:∀ (q:List Oper) (e:List AV) (o:Oper) (t:Nat),t<e.length→(∀ o∈q,oN o=true)→q.Pairwise (fun o o'=>∀ d,o.dst=some d→o'.dst≠some d)→(∀ o∈q,∀ o'∈q,∀ d,o'.dst=some d→d∉aR all o)→
  o∈q→o.dst=some t→(flE q e).getD t .any=evF e o
 | [],_,_,_,_,_,_,_,ho,_=>by simp at ho
 | o1 :: q,e,o,t,ht,hm,hp,hr,ho,hd=>by
  rw[flE]
  rw[List.pairwise_cons]at hp
  rcases List.mem_cons.1 ho with rfl | ho
  ·rw[AB q _ t (by rw[oe];exact ht) (fun o' ho'=>hp.1 o' ho' t hd),vZ ht,if_pos hd]
  ·rw[Bu q _ o t (by rw[oe];exact ht) (fun o ho=>hm o (by simp [ho])) hp.2 (fun o ho o' ho'=>hr o (by simp [ho]) o' (by simp [ho'])) ho hd]
   exact Hc (hm o (by simp [ho])) (fun d hd'=>hr o (by simp [ho]) o1 (by simp) d hd')
def flAt (ops:List Oper) (nf t:Nat):Option Nat:=(List.range ops.length).find? fun f=>decide (nf≤f)&&bi ops f==some t
theorem gu {ops:List Oper} {nf t f:Nat} (h:flAt ops nf t=some f):nf≤f∧f<ops.length∧bi ops f=some t:=by
 have h1:=List.find?_some h
 have h2:=List.mem_of_find?_eq_some h
 simp at h1 h2
 exact⟨h1.1,h2,h1.2⟩
theorem wE {ops:List Oper} {nf t:Nat} (h:flAt ops nf t=none):∀ f,nf≤f→f<ops.length→bi ops f≠some t:=by
 intro f h1 h2 h3
 have:=List.find?_eq_none.1 h f (by simp [h2])
 simp [h1,h3]at this
def fv (ops:List Oper) (nf:Nat) (E:List AV) (L:Nat→Bool) (t:Nat) (x:AV):AV:=match flAt ops nf t with
 | some f=>if L f=true then (match ops[f]? with
  | some o=>evF E o
  | none=>x) else x
 | none=>x
def ovl (ops:List Oper) (nf:Nat) (E:List AV) (L:Nat→Bool) (e:List AV):List AV:=e.mapIdx fun t x=>fv ops nf E L t x
theorem oh {ops:List Oper} {nf:Nat} {E:List AV} {L:Nat→Bool} {e:List AV}:(ovl ops nf E L e).length=e.length:=by simp [ovl]
theorem ln {ops:List Oper} {nf:Nat} {E:List AV} {L:Nat→Bool} {e:List AV} {t:Nat} (ht:t<e.length):(ovl ops nf E L e).getD t .any=fv ops nf E L t (e.getD t .any):=by
 simp [ovl,ht]
structure FlOk (ops:List Oper) (m nf:Nat):Prop where
 mv:∀ f o,nf≤f→ops[f]? =some o→oN o=true
 edges:∀ f o,nf≤f→ops[f]? =some o→∀ e∈edg o,e<m
 self:∀ f o d,nf≤f→ops[f]? =some o→o.dst=some d→d∉aR ops o
 reads:∀ f o j oj d,nf≤f→ops[f]? =some o→ops[j]? =some oj→j≠f→o.dst=some d→d∉aR ops oj∧oj.dst≠some d
 wait:∀ f o j oj,nf≤f→ops[f]? =some o→ops[j]? =some oj→j≠f→((aK [] ops).getD f 0).testBit j=true∨(Oper.apart ops.toArray o oj=true∧∀ e,oj.dst=some e→e∉aR ops o)
theorem FlOk.of {ops:List Oper} {m nf:Nat} (h:∀ d,d<ops.length-nf→xC ops (aK [] ops) m (nf+d)=true):FlOk ops m nf:=by
 have key:∀ f o,nf≤f→ops[f]? =some o→oN o=true∧(∀ e∈edg o,e<m)∧∃ d,o.dst=some d∧d∉aR ops o∧∀ j oj,ops[j]? =some oj→j≠f→(d∉aR ops oj∧oj.dst≠some d)∧
   (((aK [] ops).getD f 0).testBit j=true∨(Oper.apart ops.toArray o oj=true∧∀ e,oj.dst=some e→e∉aR ops o)):=by
  intro f o hf ho
  have hlt:f<ops.length:=(List.getElem?_eq_some_iff.1 ho).1
  have h1:=h (f-nf) (by omega)
  rw[show nf+(f-nf)=f by omega]at h1
  unfold xC at h1
  simp only[ho,Bool.and_eq_true]at h1
  obtain⟨⟨h2,h3⟩,h4⟩:=h1
  refine⟨h2,fun e he=>by simpa using List.all_eq_true.1 h3 e he, ?_⟩
  split at h4
  ·rename_i d hd
   simp only[Bool.and_eq_true,Bool.not_eq_true']at h4
   refine⟨d,hd,by simpa using h4.1,fun j oj hj hne=> ?_⟩
   have h5:=List.all_eq_true.1 h4.2 j (by simp;exact(List.getElem?_eq_some_iff.1 hj).1)
   simp only[hj,Bool.or_eq_true,beq_iff_eq,hne,false_or,Bool.and_eq_true,Bool.not_eq_true']at h5
   refine⟨⟨by simpa using h5.1.1,fun e=>by simp [e]at h5⟩, ?_⟩
   rcases h5.2 with h6 | ⟨h6,h7⟩
   ·exact .inl h6
   ·refine .inr ⟨h6,fun e he=> ?_⟩
    rw[he]at h7
    simpa using h7
  ·cases h4
 refine⟨fun f o h1 h2=>(key f o h1 h2).1,fun f o h1 h2=>(key f o h1 h2).2.1,fun f o d h1 h2 h3=> ?_,fun f o j oj d h1 h2 h3 h4 h5=> ?_,fun f o j oj h1 h2 h3 h4=> ?_⟩
 ·obtain⟨_,_,d',hd',h6,_⟩:=key f o h1 h2
  rw[h3]at hd'
  obtain rfl:d=d':=by simpa using hd'
  exact h6
 ·obtain⟨_,_,d',hd',_,h6⟩:=key f o h1 h2
  rw[h5]at hd'
  obtain rfl:d=d':=by simpa using hd'
  exact(h6 j oj h3 h4).1
 ·obtain⟨_,_,d',hd',_,h6⟩:=key f o h1 h2
  exact(h6 j oj h3 h4).2
theorem BV {m:Nat} {N:Nat→Sto} {σ:Sto} {L L':Array Bool} (h:∀ j,j<m→L.getD j false=L'.getD j false):stX m N σ L=stX m N σ L':=by
 have:∀ (g:Nat→Bool→Bool),((List.range m).any fun j=>g j (L.getD j false))=((List.range m).any fun j=>g j (L'.getD j false)):=by
  intro g
  rw[Bool.eq_iff_iff,List.any_eq_true,List.any_eq_true]
  constructor<;>rintro⟨j,hj,hg⟩<;>refine⟨j,hj, ?_⟩<;>have hj':=List.mem_range.1 hj
  ·rw[← h j hj'];exact hg
  ·rw[h j hj'];exact hg
 unfold stX
 funext k
 have h1:((List.range m).any fun j=>L.getD j false&&decide ((stAt N σ j).length≤k)&&decide (k<(stAt N σ (j+1)).length))=((List.range m).any fun j=>L'.getD j false&&decide ((stAt N σ j).length≤k)&&decide (k<(stAt N σ (j+1)).length)):=this fun j b=>b&&decide ((stAt N σ j).length≤k)&&decide (k<(stAt N σ (j+1)).length)
 rw[h1]
theorem oI {P:Program} {ops:Array Oper} {md:Region.Mode} {Q':Exit→Act→World→Prop}:∀ (l:List Oper) (k:Nat) (listed:Array Bool) (a:Act) (w:World),(∀ j,j<l.length→l[j]? =ops[k+j]?)→
  Region.seqB md ops l.length k listed=true→wpList P ops Q' l a w→wpAny P md ops Q' l.length listed a w
 | [],_,_,_,_,_,hB,h=>⟨by simpa [Region.seqB]using hB,h⟩
 | o :: l,k,listed,a,w,hl,hB,h=>by
  have h0:ops[k]? =some o:=by simpa using (hl 0 (by simp)).symm
  simp only[Zl,Region.seqB,Bool.and_eq_true,decide_eq_true_eq]at hB
  refine⟨fun h1=>(by rw[hB.1]at h1;cases h1),fun i hi=> ?_⟩
  rw[hB.1]at hi
  have hik:i=k:=by simpa using hi
  subst hik
  have hw:wpOp P ops Q' i (wpList P ops Q' l) a w:=by unfold wpOp;simp only[h0];exact h
  exact wpOp_mono (fun a' w' h'=>oI l (i+1) _ a' w' (fun j hj=>by have:=hl (j+1) (by simpa using hj);simpa [Nat.add_assoc,Nat.add_comm 1 j]using this) hB.2 h') hw
theorem y3 {m nf n i:Nat} {listed:Array Bool} (hin:i<n) (hr:i<m∨nf≤i) (hsz:i<listed.size) (hun:listed.getD i false=false):
  ((List.range n).filter fun j=>(decide (j<m)||decide (nf≤j))&& !listed.getD j false).length=((List.range n).filter fun j=>(decide (j<m)||decide (nf≤j))&& !(listed.setIfInBounds i true).getD j false).length+1:=by
 have key:∀ q,i<q→((List.range q).filter fun j=>(decide (j<m)||decide (nf≤j))&& !listed.getD j false).length=((List.range q).filter fun j=>(decide (j<m)||decide (nf≤j))&& !(listed.setIfInBounds i true).getD j false).length+1:=by
  intro q
  induction q with
  | zero=>intro h;omega
  | succ q ih=>
   intro h
   rw[List.range_succ,List.filter_append,List.filter_append,List.length_append,List.length_append]
   by_cases e:q=i
   ·subst e
    have hsame:((List.range q).filter fun j=>(decide (j<m)||decide (nf≤j))&& !listed.getD j false)=((List.range q).filter fun j=>(decide (j<m)||decide (nf≤j))&& !(listed.setIfInBounds q true).getD j false):=by
     apply List.filter_congr
     intro j hj
     have:j<q:=by simpa using hj
     rw[al hsz,decide_eq_false (show ¬ j=q by omega)]
     simp
    have hr':(decide (q<m)||decide (nf≤q))=true:=by simpa using hr
    rw[hsame]
    simp only[List.filter_cons,List.filter_nil,hr',hun,al hsz,decide_true,Bool.true_or,Bool.true_and,Bool.not_true,Bool.not_false,if_true,Bool.false_eq_true,if_false,Zl,zn]
   ·have h1:=ih (by omega)
    rw[h1]
    simp only[List.filter_cons,List.filter_nil,al hsz,decide_eq_false e,Bool.false_or]
    split<;>simp<;>omega
 exact key n hin
section
variable {ops : List Oper} {m nf : Nat} {R : Nat → AV} {N : Nat → Sto} {W : Nat → Bool} {env : List AV} {σ : Sto}
theorem AA (hF:FlOk ops m nf) (hmn:m≤nf) (hpre:da ops (aK [] ops) m=true) {listed:Array Bool} {a:Act} {w:World}
  (hI:HInv ops m nf R N (ovl ops nf (aQ ops R env m) (fun f=>listed.getD f false) env) σ γe φ0 we σ0 listed a w) {f:Nat} {o:Oper} {x:Operand} {y:O} (hnf:nf≤f) (ho:ops[f]? =some o) (hx:o.op=.move x∨o.op=.assign x) (hy:cO x=some y) (hun:listed.getD f false=false)
  (hedge:∀ e∈edg o,listed.getD e false=true):
  HInv ops m nf R N (ovl ops nf (aQ ops R env m) (fun g=>(listed.setIfInBounds f true).getD g false) env) σ γe φ0 we σ0 (listed.setIfInBounds f true) (a.put o.dst (a.eval x)) w:=by
 have hlt:f<ops.length:=(List.getElem?_eq_some_iff.1 ho).1
 have hsz:f<listed.size:=by rw[hI.size];exact hlt
 obtain⟨_,hg,d,hd⟩:=gO (hF.mv f o hnf ho)
 have hone:=cA hpre
 have hhead:∀ j,j<m→(listed.setIfInBounds f true).getD j false=listed.getD j false:=fun j hj=>by
  rw[al hsz,decide_eq_false (show ¬ j=f by omega),Bool.false_or]
 obtain⟨γ,φ,hK,hS,htl,hrel,hdf,hfix⟩:=hI.st
 have hsx:=BV (N:=N) (σ:=σ) hhead
 have hnw:aY ops m d=none:=by
  cases hw:aY ops m d with
  | none=>rfl
  | some j=>
   have hws:=aO hw
   have hj:∃ oj,ops[j]? =some oj∧oj.dst=some d:=by
    have:=hws.2
    unfold bi at this
    rw[Option.bind_eq_some_iff]at this
    exact this
   obtain⟨oj,hoj,hdj⟩:=hj
   exact absurd hdj (hF.reads f o j oj d hnf ho hoj (by omega) hd).2
 have hfld:flAt ops nf d=some f:=by
  cases hfl:flAt ops nf d with
  | none=>exact absurd (by simp [bi,ho,hd]) (wE hfl f hnf hlt)
  | some g=>
   obtain⟨h1,h2,h3⟩:=gu hfl
   by_cases hgf:g=f
   ·rw[hgf]
   ·simp only[bi,Option.bind_eq_some_iff]at h3
    obtain⟨og,hog,hdg⟩:=h3
    exact absurd hdg (hF.reads f o g og d hnf ho hog hgf hd).2
 have hlen:(ovl ops nf (aQ ops R env m) (fun f=>listed.getD f false) env).length=env.length:=oh
 have hval:Rel w γ φ (stX m N σ listed) (evF (aQ ops R env m) o) (a.eval x):=by
  rw[qH hx hy]
  cases x with
  | tmp t=>
   simp only[cO,zj]at hy
   subst hy
   have hread:t∈aR ops o:=by
    unfold aR
    refine List.mem_append.2 (.inl (List.mem_filterMap.2 ⟨.tmp t, ?_,rfl⟩))
    rcases hx with hx | hx<;>simp [hx,Op.operands]
   simp only[O.ev,Act.eval]
   by_cases ht:t<env.length
   ·have hv:=hrel t (by rw[hlen];exact ht)
    rw[lJ hone m (Nat.le_refl _) t ht]
    unfold valX at hv
    cases hw:aY ops m t with
    | some j=>
     rw[hw]at hv
     have hws:=aO hw
     simp only[bi,Option.bind_eq_some_iff]at hws
     obtain⟨hjm,oj,hoj,hdj⟩:=hws
     have hb:((aK [] ops).getD f 0).testBit j=true:=by
      rcases hF.wait f o j oj hnf ho hoj (by omega)with h | ⟨_,h⟩
      ·exact h
      ·exact absurd hread (h t hdj)
     have hlj:listed.getD j false=true:=bf hI.closed ho hedge hb
     simp only[hlj,if_true]at hv
     simp only[hjm,if_true]
     exact hv
    | none=>
     rw[hw,ln ht]at hv
     have hfn:flAt ops nf t=none:=by
      cases hfl:flAt ops nf t with
      | none=>rfl
      | some g=>
       obtain⟨h1,h2,h3⟩:=gu hfl
       simp only[bi,Option.bind_eq_some_iff]at h3
       obtain⟨og,hog,hdg⟩:=h3
       by_cases hgf:g=f
       ·subst hgf
        rw[ho]at hog
        obtain rfl:o=og:=by simpa using hog
        exact absurd hread (hF.self g o t hnf ho hdg)
       ·exact absurd hread (hF.reads g og f o t h1 hog ho (Ne.symm hgf) hdg).1
     unfold fv at hv
     rw[hfn]at hv
     exact hv
   ·have hno:(aQ ops R env m)[t]? =none:=List.getElem?_eq_none (by rw[cX];exact Nat.le_of_not_lt ht)
    rw[zq,hno]
    simp [Rel]
  | const v=>
   simp only[cO,zj]at hy
   subst hy
   exact qQ v
  | global g=>simp [cO]at hy
  | func g=>simp [cO]at hy
 refine⟨by simp [hI.size],fun t h1 h2=> ?_,fun j oj hj hlj e he=> ?_,γ,φ,hK,by rw[hsx];exact hS, ?_,fun t ht=> ?_, ?_, ?_⟩
 ·rw[al hsz,decide_eq_false (show ¬ t=f by omega),Bool.false_or]
  exact hI.tail t h1 h2
 ·rw[al hsz]at hlj ⊢
  simp only[Bool.or_eq_true,decide_eq_true_eq]at hlj ⊢
  rcases hlj with rfl | hlj
  ·rw[ho]at hj
   obtain rfl:o=oj:=by simpa using hj
   exact .inr (hedge e he)
  ·exact .inr (hI.closed j oj hj hlj e he)
 ·rw[oh]
  rw[hlen]at htl
  cases o.dst<;>simp [Act.put,htl]
 ·rw[oh]at ht
  rw[hlen]at htl
  rw[ky (by rw[htl];exact ht),hsx,hd]
  have hvx:valX ops m R (ovl ops nf (aQ ops R env m) (fun g=>(listed.setIfInBounds f true).getD g false) env) (listed.setIfInBounds f true) t=
    if d=t then evF (aQ ops R env m) o else valX ops m R (ovl ops nf (aQ ops R env m) (fun f=>listed.getD f false) env) listed t:=by
   unfold valX
   by_cases hdt:d=t
   ·subst hdt
    rw[if_pos rfl,hnw]
    simp only
    rw[ln ht]
    unfold fv
    rw[hfld]
    simp only[al hsz,decide_true,Bool.true_or,if_true,ho]
   ·rw[if_neg hdt]
    cases hw:aY ops m t with
    | some j=>
     have hws:=aO hw
     simp only[hhead j hws.1]
    | none=>
     simp only
     rw[ln ht,ln ht]
     unfold fv
     cases hfl:flAt ops nf t with
     | none=>rfl
     | some g=>
      obtain⟨h1,h2,h3⟩:=gu hfl
      have hgf:g≠f:=fun e=>by
       subst e
       simp only[bi,ho,Option.bind_some,hd,zj]at h3
       exact hdt h3
      simp only[al hsz,decide_eq_false hgf,Bool.false_or]
  rw[hvx]
  by_cases hdt:d=t
  ·rw[if_pos hdt,if_pos (by rw[hdt])]
   exact hval
  ·rw[if_neg hdt,if_neg (by simpa using hdt)]
   exact hrel t (by rw[hlen];exact ht)
 ·cases o.dst<;>simpa [Act.put]using hdf
 ·rw[hsx];exact hfix
theorem Hg {Q:Exit→Act→World→Prop} (hF:FlOk ops m nf) (hmn:m≤nf) (hn:nf≤ops.length) (hpre:da ops (aK [] ops) m=true)
  (hX:∀ f o,nf≤f→ops[f]? =some o→∃ x y,(o.op=.move x∨o.op=.assign x)∧cO x=some y)
  (hfull:∀ t,m≤t→t<nf→fullB (aK [] ops) t=true) (hseq:Region.seqB .any ops.toArray (nf-m) m (pM ops.length m nf)=true) (hsel:Region.noSelect ops.toArray=true)
  (hP:∀ c a dst v w,Q (.panic c) (Act.put a dst v) w→Q (.panic c) a w)
  (hst:∀ (i:Nat) (o:Oper),i<m→ops[i]? =some o→Step1 P ops o (aQ ops R env i) (stAt N σ i) (R i) (N i) (W i))
  (hend:∀ a w,SR γe φ0 we σ0 (flE (ops.drop nf) (aQ ops R env m)) (stAt N σ m) a w→wpList P ops.toArray Q ((ops.drop m).take (nf-m)) a w):
  ∀ (u:Nat) (listed:Array Bool) (a:Act) (w:World),HInv ops m nf R N (ovl ops nf (aQ ops R env m) (fun f=>listed.getD f false) env) σ γe φ0 we σ0 listed a w→
   ((List.range ops.length).filter fun j=>(decide (j<m)||decide (nf≤j))&& !listed.getD j false).length=u→wpAny P .any ops.toArray Q (u+(nf-m)) listed a w:=by
 intro u
 induction u with
 | zero=>
  intro listed a w hI hu
  have hall:∀ j,j<ops.length→(j<m∨nf≤j)→listed.getD j false=true:=by
   intro j hj hor
   have h0:=List.eq_nil_of_length_eq_zero hu
   rw[List.filter_eq_nil_iff]at h0
   have:=h0 j (by simp [hj])
   simpa [hor]using this
  have hcan:listed=pM ops.length m nf:=by
   apply Array.ext
   ·simp [pM,hI.size]
   ·intro i h1 h2
    have hin:i<ops.length:=by rw[← hI.size];exact h1
    have e1:listed[i]=listed.getD i false:=by simp [h1]
    have e2:(pM ops.length m nf)[i]=(decide (i<m)||decide (nf≤i)):=by simp [pM]
    rw[e1,e2]
    by_cases hi:i<m∨nf≤i
    ·rw[hall i hin hi];simpa using hi
    ·rw[hI.tail i (by omega) (by omega)];simp;omega
  obtain⟨γ,φ,hK,hS,htl,hrel,hd,hfix⟩:=hI.st
  rw[xa fun j hj=>hall j (by omega) (.inl hj)]at hS hrel hfix
  rw[oh]at htl hrel
  have hSR:SR γe φ0 we σ0 (flE (ops.drop nf) (aQ ops R env m)) (stAt N σ m) a w:=by
   refine⟨γ,φ,hK,hS,RelL.of_get (by simp [xD,cX,htl]) fun t x hx=> ?_,hd,hfix⟩
   have ht:t<env.length:=by
    have:=(List.getElem?_eq_some_iff.1 hx).1
    rwa [xD,cX]at this
   have hv:=hrel t ht
   have hone:=cA hpre
   have he:x=(flE (ops.drop nf) (aQ ops R env m)).getD t .any:=by rw[zq,hx,Option.getD_some]
   refine⟨a.tmps.getD t undef, ?_, ?_⟩
   ·simp [show t<a.tmps.size by omega]
   ·rw[he]
    have hval:valX ops m R (ovl ops nf (aQ ops R env m) (fun f=>listed.getD f false) env) listed t=(flE (ops.drop nf) (aQ ops R env m)).getD t .any:=by
     cases hfl:flAt ops nf t with
     | none=>
      rw[AB _ _ t (by rw[cX];exact ht) (fun o ho hd=>by
       obtain⟨j,hj,hoj⟩:=List.mem_iff_getElem.1 ho
       simp only[List.length_drop]at hj
       refine wE hfl (nf+j) (by omega) (by omega) ?_
       rw[List.getElem_drop]at hoj
       simp only[bi]
       rw[zg (by omega),hoj]
       exact hd),lJ hone m (Nat.le_refl _) t ht]
      unfold valX
      cases hw:aY ops m t with
      | some j=>
       have hws:=aO hw
       simp only[hall j (by omega) (.inl hws.1),hws.1,if_true]
      | none=>
       simp only
       rw[ln ht]
       unfold fv
       rw[hfl]
     | some f=>
      obtain⟨h1,h2,h3⟩:=gu hfl
      simp only[bi,Option.bind_eq_some_iff]at h3
      obtain⟨o,ho,hdo⟩:=h3
      have hnw:aY ops m t=none:=by
       cases hw:aY ops m t with
       | none=>rfl
       | some j=>
        have hws:=aO hw
        simp only[bi,Option.bind_eq_some_iff]at hws
        obtain⟨hjm,oj,hoj,hdj⟩:=hws
        exact absurd hdj (hF.reads f o j oj t h1 ho hoj (by omega) hdo).2
      have hmem:∀ o'∈ops.drop nf,∃ g,nf≤g∧ops[g]? =some o':=fun o' ho'=>by
       obtain⟨j,hj,hoj⟩:=List.mem_iff_getElem.1 ho'
       simp only[List.length_drop]at hj
       rw[List.getElem_drop]at hoj
       exact⟨nf+j,by omega,by rw[zg (by omega),hoj]⟩
      rw[Bu (all:=ops) (ops.drop nf) _ o t (by rw[cX];exact ht) (fun o' ho'=>by obtain⟨g,hg,hog⟩:=hmem o' ho';exact hF.mv g o' hg hog) ?_ ?_ ?_ hdo]
      ·unfold valX
       rw[hnw]
       simp only
       rw[ln ht]
       unfold fv
       rw[hfl]
       simp only[hall f h2 (.inr h1),if_true,ho]
      ·rw[List.pairwise_iff_getElem]
       intro i j hi hj hij d hdi hdj
       simp only[List.length_drop]at hi hj
       rw[List.getElem_drop]at hdi hdj
       exact(hF.reads (nf+i) _ (nf+j) _ d (by omega) (zg (by omega)) (zg (by omega)) (by omega) hdi).2 hdj
      ·intro o1 ho1 o2 ho2 d hd2
       obtain⟨g1,hg1,hog1⟩:=hmem o1 ho1
       obtain⟨g2,hg2,hog2⟩:=hmem o2 ho2
       by_cases hgg:g1=g2
       ·subst hgg
        rw[hog1]at hog2
        obtain rfl:o1=o2:=by simpa using hog2
        exact hF.self g1 o1 d hg1 hog1 hd2
       ·exact(hF.reads g2 o2 g1 o1 d hg2 hog2 hog1 hgg hd2).1
      ·rw[List.mem_iff_getElem?]
       exact⟨f-nf,by rw[List.getElem?_drop,show nf+(f-nf)=f by omega];exact ho⟩
    rw[← hval]
    exact hv
  have hl:((ops.drop m).take (nf-m)).length=nf-m:=by simp;omega
  rw[Nat.zero_add]
  have hgo:=oI (P:=P) (ops:=ops.toArray) (md:=.any) (Q':=Q) ((ops.drop m).take (nf-m)) m listed a w
  rw[hl]at hgo
  exact hgo (fun j hj=>by rw[List.getElem?_take,if_pos hj,List.getElem?_drop,List.getElem?_toArray]) (by rw[hcan];exact hseq) (hend a w hSR)
 | succ u ih=>
  intro listed a w hI hu
  have hszl:listed.size=ops.length:=hI.size
  by_cases hfx:∃ f,nf≤f∧f<ops.length∧listed.getD f false=false∧∃ o,ops[f]? =some o∧∀ e∈edg o,listed.getD e false=true
  ·obtain⟨f,hnf,hfl,hun,o,ho,hedge⟩:=hfx
   obtain⟨x,y,hx,hy⟩:=hX f o hnf ho
   obtain⟨_,hg,d,hd⟩:=gO (hF.mv f o hnf ho)
   have hready:f∈Region.ready .any ops.toArray listed:=mem_ready.2 ⟨getD_in (by rw[hszl];exact hfl) hun,o,by simpa using ho,fun e he hb=>hedge _ (bG.2 ⟨e,he,hb,rfl⟩)⟩
   have hfree:Region.free .any ops.toArray listed f=true:=by
    unfold Region.free
    simp only[List.getElem?_toArray,ho,List.all_eq_true,List.mem_range,List.size_toArray]
    intro j hj
    by_cases hjf:j=f
    ·simp [hjf]
    ·have hoj:ops[j]? =some ops[j]:=zg hj
     rw[hoj]
     simp only[Bool.or_eq_true,beq_iff_eq,hjf,false_or]
     rcases hF.wait f o j ops[j] hnf ho hoj hjf with h | ⟨h,_⟩
     ·have:=bf hI.closed ho hedge h
      left
      rw[Array.getD_eq_getD_getElem?]at this ⊢
      rw[Array.getElem?_eq_getElem (by omega)]at this ⊢
      simpa using this
     ·exact .inr (.inr h)
   have hyl:Yields P ops.toArray o (a.eval x) a:=.inl ⟨by unfold Region.wanted;rw[hg],fun w=>by rcases hx with hx | hx<;>simp [execOp,hx]⟩
   rw[show u+1+(nf-m)=(u+(nf-m))+1 by omega]
   refine wpAny_take (by simpa using ho) hsel hfree (by simpa using hready) (fun c a w h=>hP c a _ _ w h) hyl (ih _ _ _ (AA hF hmn hpre hI hnf ho hx hy hun hedge) ?_)
   have hcount:=y3 (m:=m) (nf:=nf) (n:=ops.length) (i:=f) (listed:=listed) (by omega) (.inr hnf) (by omega) hun
   omega
  ·have hnof:∀ f,nf≤f→f<ops.length→listed.getD f false=false→¬ ∃ o,ops[f]? =some o∧∀ e∈edg o,listed.getD e false=true:=fun f h1 h2 h3 h4=>hfx ⟨f,h1,h2,h3,h4⟩
   have hex:∃ j,j<m∧listed.getD j false=false:=by
    false_or_by_contra
    rename_i hc
    have hall:∀ j,j<m→listed.getD j false=true:=fun j hj=>by
     cases hb:listed.getD j false with
     | true=>rfl
     | false=>exact absurd ⟨j,hj,hb⟩ hc
    have hne:((List.range ops.length).filter fun j=>(decide (j<m)||decide (nf≤j))&& !listed.getD j false)≠[]:=fun h=>by rw[h]at hu;cases hu
    obtain⟨j,hj⟩:=List.exists_mem_of_ne_nil _ hne
    simp only[List.mem_filter,List.mem_range,Bool.and_eq_true,Bool.or_eq_true,decide_eq_true_eq,Bool.not_eq_true']at hj
    obtain⟨hjn,hjr,hjf⟩:=hj
    have hnfj:nf≤j:=by
     rcases hjr with h | h
     ·rw[hall j h]at hjf;cases hjf
     ·exact h
    exact hnof j hnfj hjn hjf ⟨ops[j],zg hjn,fun e he=>hall e (hF.edges j _ hnfj (zg hjn) e he)⟩
   have hready:∃ i,i∈Region.ready .any ops.toArray listed:=by
    obtain⟨j,hj,hjf⟩:=hex
    induction j using Nat.strongRecOn with
    | _ j ihj=>
     obtain⟨o,ho,hedge,_⟩:=cr hpre hj
     by_cases hall:∀ e∈edg o,listed.getD e false=true
     ·refine⟨j,mem_ready.2 ⟨getD_in (by rw[hszl];omega) hjf,o,by simpa using ho,fun e he hb=>hall _ (bG.2 ⟨e,he,hb,rfl⟩)⟩⟩
     ·have⟨e,he,hne⟩:∃ e,e∈edg o∧listed.getD e false=false:=by
       false_or_by_contra
       rename_i hc
       apply hall
       intro e he
       cases hb:listed.getD e false with
       | true=>rfl
       | false=>exact absurd ⟨e,he,hb⟩ hc
      exact ihj e (hedge e he) (by have:=hedge e he;omega) hne
   have hhead:∀ i,i∈Region.ready .any ops.toArray listed→i<m:=by
    intro i hi
    obtain⟨hun,oi,hoi,hall⟩:=mem_ready.1 hi
    have hoi':ops[i]? =some oi:=by simpa using hoi
    have hlt:i<ops.length:=(List.getElem?_eq_some_iff.1 hoi').1
    have hed:∀ e∈edg oi,listed.getD e false=true:=fun e he=>by
     obtain⟨x,hx,hb,rfl⟩:=bG.1 he
     exact hall x hx hb
    rcases Nat.lt_or_ge i m with h | h
    ·exact h
    ·exfalso
     rcases Nat.lt_or_ge i nf with h' | h'
     ·obtain⟨j,hj,hjf⟩:=hex
      have hb:=List.all_eq_true.1 (hfull i h h') j (by simp;omega)
      have:=bf hI.closed hoi' hed hb
      rw[hjf]at this
      cases this
     ·exact hnof i h' hlt (getD_both hun) ⟨oi,hoi',hed⟩
   rw[show u+1+(nf-m)=(u+(nf-m))+1 by omega]
   refine⟨fun h0=> ?_,fun i hi=> ?_⟩
   ·obtain⟨i,hi⟩:=hready
    rw[h0]at hi
    cases hi
   ·have him:=hhead i hi
    obtain⟨hun,oi,hoi,_⟩:=mem_ready.1 hi
    have hoi':ops[i]? =some oi:=by simpa using hoi
    have hlt:i<ops.length:=(List.getElem?_eq_some_iff.1 hoi').1
    have hov:(ovl ops nf (aQ ops R env m) (fun f=>(listed.setIfInBounds i true).getD f false) env)=ovl ops nf (aQ ops R env m) (fun f=>listed.getD f false) env:=by
     unfold ovl
     congr 1
     funext t x
     unfold fv
     cases hfl:flAt ops nf t with
     | none=>rfl
     | some g=>
      obtain⟨h1,_,_⟩:=gu hfl
      simp only[al (show i<listed.size by rw[hszl];exact hlt),decide_eq_false (show ¬ g=i by omega),Bool.false_or]
    refine wpOp_mono (fun a' w' hI'=>ih _ a' w' (by rw[hov];exact hI') ?_) (ot (Q:=Q) hpre (fun i' o' hi' ho'=>Step1.congr (hst i' o' hi' ho') fun t ht=> ?_) hI him hi)
    ·have hcount:=y3 (m:=m) (nf:=nf) (n:=ops.length) (i:=i) (listed:=listed) (by omega) (.inl him) (by omega) (getD_both hun)
     omega
    ·have hone:=cA hpre
     by_cases htl:t<env.length
     ·rw[lJ hone i' (by omega) t (by rw[oh];exact htl),lJ hone i' (by omega) t htl]
      have hfn:flAt ops nf t=none:=by
       cases hfl:flAt ops nf t with
       | none=>rfl
       | some g=>
        obtain⟨h1,h2,h3⟩:=gu hfl
        simp only[bi,Option.bind_eq_some_iff]at h3
        obtain⟨og,hog,hdg⟩:=h3
        exact absurd ht (hF.reads g og i' o' t h1 hog ho' (by omega) hdg).1
      have hsame:(ovl ops nf (aQ ops R env m) (fun f=>listed.getD f false) env).getD t .any=env.getD t .any:=by
       rw[ln htl]
       unfold fv
       rw[hfn]
      cases hw:aY ops m t with
      | none=>exact hsame
      | some j=>simp only[hsame]
     ·rw[zq,zq,List.getElem?_eq_none (by rw[cX,oh];omega),List.getElem?_eq_none (by rw[cX];omega)]
end
theorem wX {P:Program} {all:List Oper}:∀ (l:List Oper) (l':List Ins),bj P all l=some l'→∀ o∈l,∃ i,cIns P all o=some i
 | [],_,_,o,ho=>by simp at ho
 | o1 :: l,l',h,o,ho=>by
  simp only[bj]at h
  split at h
  ·rename_i i r hi hr
   rcases List.mem_cons.1 ho with rfl | ho
   ·exact⟨i,hi⟩
   ·exact wX l r hr o ho
  ·cases h
theorem Da (m nf:Nat) (hmn:m≤nf):∀ n,nf≤n→((List.range n).filter fun j=>(decide (j<m)||decide (nf≤j))).length+(nf-m)=n:=by
 have h1:∀ n,n≤m→((List.range n).filter fun j=>(decide (j<m)||decide (nf≤j))).length=n:=by
  intro n hn
  rw[List.filter_eq_self.2 fun j hj=>by have:=List.mem_range.1 hj;simp;omega,List.length_range]
 have h2:∀ d,m+d≤nf→((List.range (m+d)).filter fun j=>(decide (j<m)||decide (nf≤j))).length=m:=by
  intro d
  induction d with
  | zero=>intro _;exact h1 m (Nat.le_refl _)
  | succ d ih=>
   intro hd
   have e:(decide (m+d<m)||decide (nf≤m+d))=false:=by simp;omega
   rw[← Nat.add_assoc,List.range_succ,List.filter_append,List.length_append,ih (by omega)]
   simp only[List.filter_cons,List.filter_nil,e,Bool.false_eq_true,if_false,zn,Nat.add_zero]
 intro n hn
 obtain⟨d,rfl⟩:∃ d,n=nf+d:=⟨n-nf,by omega⟩
 clear hn
 induction d with
 | zero=>
  have:=h2 (nf-m) (by omega)
  rw[show m+(nf-m)=nf by omega]at this
  rw[Nat.add_zero,this];omega
 | succ d ih=>
  have e:(decide (nf+d<m)||decide (nf≤nf+d))=true:=by simp
  rw[← Nat.add_assoc,List.range_succ,List.filter_append,List.length_append]
  simp only[List.filter_cons,List.filter_nil,e,if_true,Zl,zn]
  omega
theorem s8 {P:Program} {ops:Array Oper} {o:Oper} {a:Act} {w:World} {Q:Value→World→Prop} (h:yc o=true) (hex:Exec P Q ((execOp a.eval o).run P w)):∃ v,Yields P ops o v a∧Q v w:=by
 unfold yc at h
 simp only[Bool.and_eq_true,Option.isNone_iff_eq_none]at h
 obtain⟨h1,h2⟩:=h
 have hw:Region.wanted o (yielded ops a.tmps)=true:=by unfold Region.wanted;rw[h2]
 split at h1
 ·rename_i x hx
  exact⟨a.eval x,.inl ⟨hw,fun w=>by simp [execOp,hx]⟩,by simpa [execOp,hx,Exec]using hex⟩
 ·rename_i x hx
  exact⟨a.eval x,.inl ⟨hw,fun w=>by simp [execOp,hx]⟩,by simpa [execOp,hx,Exec]using hex⟩
 ·rename_i x i hx
  cases hv:a.eval x with
  | tuple vs=>
   cases hi:vs[i]? with
   | some v=>exact⟨v,.inl ⟨hw,fun w=>by simp [execOp,hx,hv,Instr.extract,hi]⟩,by simpa [execOp,hx,hv,Instr.extract,hi,Exec]using hex⟩
   | none=>simp [execOp,hx,hv,Instr.extract,hi,Exec]at hex
  | _=>simp [execOp,hx,hv,Instr.extract,Exec]at hex
 ·cases h1
theorem AG {P:Program} {γe:Labels} {φ0:Nat→Nat} {we:World} {σ0:Sto} {ops:List Oper} {m:Nat} {F:List Nat} {R:Nat→AV} {N:Nat→Sto} {W:Nat→Bool} {env:List AV} {σ:Sto} {Q:Exit→Act→World→Prop} (hpre:da ops (aK [] ops) m=true) (hm:m≤ops.length)
  (hF:∀ p∈F,p<m∧pD ops (aK [] ops) p=true∧∀ o,ops[p]? =some o→∀ e∈edg o,e∉F)
  (hfull:∀ t,m≤t→t<ops.length→qF (aK [] ops) F t=true) (hseq:Region.seqB .any ops.toArray (ops.length-m) m (cK ops.length m)=true) (hsel:Region.noSelect ops.toArray=true)
  (hP:∀ c a dst v w,Q (.panic c) (Act.put a dst v) w→Q (.panic c) a w)
  (hst:∀ (i:Nat) (o:Oper),i<m→ops[i]? =some o→Step1 P ops o (aQ ops R env i) (stAt N σ i) (R i) (N i) (W i))
  (hend:∀ a w,SR γe φ0 we σ0 (aQ ops R env m) (stAt N σ m) a w→wpList P ops.toArray Q (ops.drop m) a w):
  ∀ (f:Nat) (listed:Array Bool) (a:Act) (w:World),HInv ops m ops.length R N env σ γe φ0 we σ0 listed a w→unl m listed=f→wpAny P .any ops.toArray Q (f+(ops.length-m)) listed a w
 | 0,listed,a,w,hI,hf=>wI hpre hm hseq hend listed a w hI hf
 | f+1,listed,a,w,hI,hf=>by
  have hex:∃ j,j<m∧listed.getD j false=false:=by
   cases hfl:(List.range m).filter fun j=> !listed.getD j false with
   | nil=>unfold unl at hf;rw[hfl]at hf;simp at hf
   | cons j l=>
    have:j∈(List.range m).filter fun j=> !listed.getD j false:=by rw[hfl];simp
    simp at this
    exact⟨j,this.1,by simpa using this.2⟩
  rw[show f+1+(ops.length-m)=(f+(ops.length-m))+1 by omega]
  by_cases hfx:∃ p,p∈F∧listed.getD p false=false∧∃ o,ops[p]? =some o∧∀ e∈edg o,listed.getD e false=true
  ·obtain⟨p,hp,hun,o,ho,hedge⟩:=hfx
   obtain⟨hpm,hfh,_⟩:=hF p hp
   unfold pD at hfh
   simp only[ho,Bool.and_eq_true]at hfh
   obtain⟨hsl,hall⟩:=hfh
   have hready:p∈Region.ready .any ops.toArray listed:=mem_ready.2 ⟨getD_in (by rw[hI.size];omega) hun,o,by simpa using ho,fun e he hb=>hedge _ (bG.2 ⟨e,he,hb,rfl⟩)⟩
   have hfree:Region.free .any ops.toArray listed p=true:=by
    unfold Region.free
    simp only[List.getElem?_toArray,ho,List.all_eq_true,List.mem_range,List.size_toArray]
    intro j hj
    have h1:=List.all_eq_true.1 hall j (by simpa using hj)
    by_cases hjf:j=p
    ·simp [hjf]
    ·have hoj:ops[j]? =some ops[j]:=zg hj
     rw[hoj]at h1 ⊢
     simp only[Bool.or_eq_true,beq_iff_eq,hjf,false_or]at h1 ⊢
     rcases h1 with h1 | h1 | h1
     ·have:=bf hI.closed ho hedge h1
      left
      have hjs:j<listed.size:=by rw[hI.size];exact hj
      rw[Array.getD_eq_getD_getElem?]at this ⊢
      rw[Array.getElem?_eq_getElem hjs]at this ⊢
      simpa using this
     ·right;left
      obtain⟨e,he,hb,heq⟩:=bG.1 (by simpa using h1)
      rw[Array.any_eq_true']
      exact⟨e,he,by simp [hb,heq]⟩
     ·exact .inr (.inr h1)
   obtain⟨o',ho',hwt,_,hexec⟩:=wA hpre hst hI hpm hready
   rw[ho]at ho'
   obtain rfl:o=o':=by simpa using ho'
   have hwp:W p=true:=by
    rw[← hwt]
    unfold yc at hsl
    simp only[Bool.and_eq_true,Option.isNone_iff_eq_none]at hsl
    unfold Region.wanted
    rw[hsl.2]
   obtain⟨v,hy,hI'⟩:=s8 (ops:=ops.toArray) hsl (hexec hwp)
   refine wpAny_take (by simpa using ho) hsel hfree (by simpa using hready) (fun c a w h=>hP c a _ _ w h) hy (AG hpre hm hF hfull hseq hsel hP hst hend f _ _ _ hI' ?_)
   have:=lg hpm (by rw[hI.size];omega) hun
   omega
  ·have hready:∃ i,i∈Region.ready .any ops.toArray listed:=by
    obtain⟨j,hj,hjf⟩:=hex
    induction j using Nat.strongRecOn with
    | _ j ih=>
     obtain⟨o,ho,hedge,_⟩:=cr hpre hj
     by_cases hall:∀ e∈edg o,listed.getD e false=true
     ·refine⟨j,mem_ready.2 ⟨getD_in (by rw[hI.size];omega) hjf,o,by simpa using ho,fun e he hb=>hall _ (bG.2 ⟨e,he,hb,rfl⟩)⟩⟩
     ·have⟨e,he,hne⟩:∃ e,e∈edg o∧listed.getD e false=false:=by
       false_or_by_contra
       rename_i hc
       apply hall
       intro e he
       cases hb:listed.getD e false with
       | true=>rfl
       | false=>exact absurd ⟨e,he,hb⟩ hc
      exact ih e (hedge e he) (by have:=hedge e he;omega) hne
   have hhead:∀ i,i∈Region.ready .any ops.toArray listed→i<m:=by
    intro i hi
    obtain⟨hun,oi,hoi,hall⟩:=mem_ready.1 hi
    rcases Nat.lt_or_ge i m with h | h
    ·exact h
    ·exfalso
     have hoi':ops[i]? =some oi:=by simpa using hoi
     have hlt:i<ops.length:=(List.getElem?_eq_some_iff.1 hoi').1
     have hed:∀ e∈edg oi,listed.getD e false=true:=fun e he=>by
      obtain⟨x,hx,hb,rfl⟩:=bG.1 he
      exact hall x hx hb
     have hnon:∀ j,j<m→j∉F→listed.getD j false=true:=fun j hj hjF=>by
      have hb:=List.all_eq_true.1 (hfull i h hlt) j (by simp;omega)
      simp only[Bool.or_eq_true]at hb
      rcases hb with hb | hb
      ·exact absurd (by simpa using hb) hjF
      ·exact bf hI.closed hoi' hed hb
     obtain⟨j,hj,hjf⟩:=hex
     by_cases hjF:j∈F
     ·obtain⟨_,_,hno⟩:=hF j hjF
      obtain⟨o,ho,hedge,_⟩:=cr hpre hj
      exact hfx ⟨j,hjF,hjf,o,ho,fun e he=>hnon e (by have:=hedge e he;omega) (hno o ho e he)⟩
     ·rw[hnon j hj hjF]at hjf;cases hjf
   refine⟨fun h0=> ?_,fun i hi=> ?_⟩
   ·obtain⟨i,hi⟩:=hready
    rw[h0]at hi
    cases hi
   ·have him:=hhead i hi
    obtain⟨hun,oi,hoi,_⟩:=mem_ready.1 hi
    have hoi':ops[i]? =some oi:=by simpa using hoi
    have hlt:i<ops.length:=(List.getElem?_eq_some_iff.1 hoi').1
    refine wpOp_mono (fun a' w' hI'=>AG hpre hm hF hfull hseq hsel hP hst hend f _ a' w' hI' ?_) (ot (Q:=Q) hpre hst hI him hi)
    have:=lg him (by rw[hI.size];exact hlt) (getD_both hun)
    omega
theorem yt {id:Nat} {ops:Array Oper} {m:Nat} (hm:P.follows .mixedOrders=true) {l:List Ins} (hl:bj P ops.toList ops.toList=some l) (hmle:m≤ops.toList.length) (hpre:da ops.toList (aK [] ops.toList) m=true)
  (hfo:n6 ops.toList (aK [] ops.toList) (fset ops.toList (aK [] ops.toList) m)=true) (hful:∀ d,d<ops.toList.length-m→qF (aK [] ops.toList) (fset ops.toList (aK [] ops.toList) m) (m+d)=true)
  (hseq:Region.seqB .any ops.toList.toArray (ops.toList.length-m) m (cK ops.toList.length m)=true) (hsel:Region.noSelect ops.toList.toArray=true)
  {K:Ex→List AV→Sto→Prop} {env:List AV} {σ:Sto} {a:Act} {w:World} {Q:Exit→Act→World→Prop}
  (h:runG P (l.take m) env σ fun e σ=>runT P (l.drop m) e σ (K .normal)) (hS:SR γe φ0 we σ0 env σ a w) (hQ:∀ env σ a w,K .normal env σ→SR γe φ0 we σ0 env σ a w→Q .normal a w)
  (hP:∀ c a dst v w,Q (.panic c) (Act.put a dst v) w→Q (.panic c) a w):(Code.region id ops true).wp P Q a w:=by
 have hF:∀ p∈fset ops.toList (aK [] ops.toList) m,p<m∧pD ops.toList (aK [] ops.toList) p=true∧∀ o,ops.toList[p]? =some o→∀ e∈edg o,e∉fset ops.toList (aK [] ops.toList) m:=by
  intro p hp
  have hpm:p<m:=by
   unfold fset at hp
   simpa using (List.mem_filter.1 hp).1
  have h1:=List.all_eq_true.1 hfo p hp
  simp only[Bool.and_eq_true]at h1
  refine⟨hpm,h1.1,fun o ho e he=> ?_⟩
  have h2:=h1.2
  rw[ho]at h2
  have:=List.all_eq_true.1 h2 e he
  simpa using this
 obtain⟨h1,h2⟩:=cB ops.toList l m hl
 obtain⟨R,N,W,hK,hst⟩:=gG (ops.toList.take m) (l.take m) h1 h
 have htl:(ops.toList.take m).length=m:=by simp at hmle ⊢;omega
 have henv:∀ i,i≤m→aQ (ops.toList.take m) R env i=aQ ops.toList R env i:=by
  intro i
  induction i with
  | zero=>intro _;rfl
  | succ i ih=>
   intro hi
   rw[aQ,aQ,ih (by omega)]
   congr 1
   simp only[bi,List.getElem?_take,show i<m by omega,if_true]
 rw[htl,henv m (Nat.le_refl _)]at hK
 have hst':∀ (i:Nat) (o:Oper),i<m→ops.toList[i]? =some o→Step1 P ops.toList o (aQ ops.toList R env i) (stAt N σ i) (R i) (N i) (W i):=by
  intro i o hi ho
  have:=hst i o (by rw[List.getElem?_take,if_pos hi];exact ho)
  rwa [henv i (by omega)]at this
 refine wp_region_any hm ?_
 obtain⟨γ,φ,hKst,hSim,hE,hd,hfix⟩:=hS
 have hnone:∀ j,(Array.replicate ops.size false).getD j false=false:=fun j=>getD_replicate_false _ _
 have hsx:stX m N σ (Array.replicate ops.size false)=at_ σ:=mD (fun j _=>hnone j) (fun k hk=>by
  obtain⟨l',hl'⟩:=lh (N:=N) (σ:=σ) 0 m
  rw[Nat.zero_add]at hl'
  rw[hl']
  simp only[at_,stAt]
  rw[List.getElem?_append_left hk])
 have hI:HInv ops.toList m ops.toList.length R N env σ γe φ0 we σ0 (Array.replicate ops.size false) a w.drew:=by
  refine⟨by simp,fun t _ _=>hnone t,fun j o _ hlj=>(by rw[hnone j]at hlj;cases hlj),γ,φ,hKst.trans (Kst.drew _ _), ?_, ?_,fun t ht=> ?_,hd, ?_⟩
  ·rw[hsx];exact hSim.drew
  ·have:=hE.len;simpa using this
  ·rw[hsx]
   unfold valX
   cases hw:aY ops.toList m t with
   | none=>exact Rel.mono (Kst.drew γ w) (Live.refl _ _ _ _) _ _ (du hE t)
   | some j=>simp only[hnone j,Bool.false_eq_true,if_false,Rel]
  ·rw[hsx];exact hfix
 have hany:=AG (P:=P) (Q:=Q) hpre hmle hF (fun t h1 h2=>by have:=hful (t-m) (by omega);rwa [show m+(t-m)=t by omega]at this) hseq hsel hP hst' (fun a w hS'=>dd (ops:=ops) (ops.toList.drop m) (l.drop m) h2 hK hS' hQ)
  (unl m (Array.replicate ops.size false)) _ a w.drew hI rfl
 have hul:unl m (Array.replicate ops.size false)=m:=by
  unfold unl
  rw[List.filter_eq_self.2 (fun j _=>by rw[hnone j];rfl)]
  simp
 rw[hul,show m+(ops.toList.length-m)=ops.size by simp at hmle ⊢;omega]at hany
 exact hany
theorem xh {id:Nat} {ops:Array Oper} {nf m:Nat} (hm:P.follows .mixedOrders=true) {l:List Ins} (hl:bj P ops.toList ops.toList=some l) (hmn:m≤nf) (hn:nf≤ops.toList.length) (hpre:da ops.toList (aK [] ops.toList) m=true)
  (hful:∀ d,d<nf-m→fullB (aK [] ops.toList) (m+d)=true) (hfl:∀ d,d<ops.toList.length-nf→xC ops.toList (aK [] ops.toList) m (nf+d)=true)
  (hseq:Region.seqB .any ops (nf-m) m (pM ops.toList.length m nf)=true) (hsel:Region.noSelect ops=true)
  {K:Ex→List AV→Sto→Prop} {env:List AV} {σ:Sto} {a:Act} {w:World} {Q:Exit→Act→World→Prop}
  (h:runG P (l.take m++l.drop nf) env σ fun e σ=>runT P ((l.drop m).take (nf-m)) e σ (K .normal)) (hS:SR γe φ0 we σ0 env σ a w) (hQ:∀ env σ a w,K .normal env σ→SR γe φ0 we σ0 env σ a w→Q .normal a w)
  (hP:∀ c a dst v w,Q (.panic c) (Act.put a dst v) w→Q (.panic c) a w):(Code.region id ops true).wp P Q a w:=by
 have hF:=FlOk.of hfl
 obtain⟨h1,h2⟩:=cB ops.toList l m hl
 obtain⟨_,h3⟩:=cB ops.toList l nf hl
 obtain⟨h4,_⟩:=cB (ops.toList.drop m) (l.drop m) (nf-m) h2
 rw[mF]at h
 obtain⟨R,N,W,hK,hst⟩:=gG (ops.toList.take m) (l.take m) h1 h
 have htl:(ops.toList.take m).length=m:=by simp at hn ⊢;omega
 have henv:∀ i,i≤m→aQ (ops.toList.take m) R env i=aQ ops.toList R env i:=by
  intro i
  induction i with
  | zero=>intro _;rfl
  | succ i ih=>
   intro hi
   rw[aQ,aQ,ih (by omega)]
   congr 1
   simp only[bi,List.getElem?_take,show i<m by omega,if_true]
 rw[htl,henv m (Nat.le_refl _)]at hK
 have hmvs:∀ o∈ops.toList.drop nf,oN o=true:=fun o ho=>by
  obtain⟨j,hj,hoj⟩:=List.mem_iff_getElem.1 ho
  rw[List.getElem_drop]at hoj
  rw[List.length_drop]at hj
  exact hF.mv (nf+j) o (by omega) (by rw[zg (by omega),hoj])
 have hK2:=runF (ops.toList.drop nf) (l.drop nf) h3 hmvs _ _ hK
 have hst':∀ (i:Nat) (o:Oper),i<m→ops.toList[i]? =some o→Step1 P ops.toList o (aQ ops.toList R env i) (stAt N σ i) (R i) (N i) (W i):=by
  intro i o hi ho
  have:=hst i o (by rw[List.getElem?_take,if_pos hi];exact ho)
  rwa [henv i (by omega)]at this
 have hX:∀ f o,nf≤f→ops.toList[f]? =some o→∃ x y,(o.op=.move x∨o.op=.assign x)∧cO x=some y:=by
  intro f o hf ho
  obtain⟨⟨x,hx⟩,_⟩:=gO (hF.mv f o hf ho)
  have hmem:o∈ops.toList:=List.mem_of_getElem? ho
  obtain⟨i,hi⟩:=wX _ _ hl o hmem
  unfold cIns at hi
  split at hi
  ·rename_i op g hop _
   rcases hx with hx | hx<;>simp only[hx,cOp,zm]at hop<;>(obtain⟨y,hy,_⟩:=hop;exact⟨x,y,by simp [hx],hy⟩)
  ·cases hi
 refine wp_region_any hm ?_
 obtain⟨γ,φ,hKst,hSim,hE,hd,hfix⟩:=hS
 have hnone:∀ j,(Array.replicate ops.size false).getD j false=false:=fun j=>getD_replicate_false _ _
 have hsx:stX m N σ (Array.replicate ops.size false)=at_ σ:=mD (fun j _=>hnone j) (fun k hk=>by
  obtain⟨l',hl'⟩:=lh (N:=N) (σ:=σ) 0 m
  rw[Nat.zero_add]at hl'
  rw[hl']
  simp only[at_,stAt]
  rw[List.getElem?_append_left hk])
 have hov:ovl ops.toList nf (aQ ops.toList R env m) (fun f=>(Array.replicate ops.size false).getD f false) env=env:=by
  refine List.ext_getElem? fun t=> ?_
  simp only[ovl,List.getElem?_mapIdx]
  cases env[t]? with
  | none=>rfl
  | some x=>
   simp only[Option.map_some,fv]
   cases flAt ops.toList nf t with
   | none=>rfl
   | some f=>simp only[hnone f,Bool.false_eq_true,if_false]
 have hI:HInv ops.toList m nf R N (ovl ops.toList nf (aQ ops.toList R env m) (fun f=>(Array.replicate ops.size false).getD f false) env) σ γe φ0 we σ0 (Array.replicate ops.size false) a w.drew:=by
  rw[hov]
  refine⟨by simp,fun t _ _=>hnone t,fun j o _ hlj=>(by rw[hnone j]at hlj;cases hlj),γ,φ,hKst.trans (Kst.drew _ _), ?_, ?_,fun t ht=> ?_,hd, ?_⟩
  ·rw[hsx];exact hSim.drew
  ·have:=hE.len;simpa using this
  ·rw[hsx]
   unfold valX
   cases hw:aY ops.toList m t with
   | none=>exact Rel.mono (Kst.drew γ w) (Live.refl _ _ _ _) _ _ (du hE t)
   | some j=>simp only[hnone j,Bool.false_eq_true,if_false,Rel]
  ·rw[hsx];exact hfix
 have hany:=Hg (P:=P) (Q:=Q) hF hmn hn hpre hX (fun t h1 h2=>by have:=hful (t-m) (by omega);rwa [show m+(t-m)=t by omega]at this) hseq hsel hP hst' (fun a w hS'=>dd (ops:=ops) ((ops.toList.drop m).take (nf-m)) ((l.drop m).take (nf-m)) h4 hK2 hS' hQ)
  (((List.range ops.toList.length).filter fun j=>(decide (j<m)||decide (nf≤j))&& !(Array.replicate ops.size false).getD j false).length) _ a w.drew hI rfl
 have hul:((List.range ops.toList.length).filter fun j=>(decide (j<m)||decide (nf≤j))&& !(Array.replicate ops.size false).getD j false).length+(nf-m)=ops.size:=by
  have h5:((List.range ops.toList.length).filter fun j=>(decide (j<m)||decide (nf≤j))&& !(Array.replicate ops.size false).getD j false)=(List.range ops.toList.length).filter fun j=>(decide (j<m)||decide (nf≤j)):=List.filter_congr fun j _=>by rw[hnone j];simp
  rw[h5]
  have h6:=Da m nf hmn ops.toList.length hn
  simpa using h6
 rw[hul]at hany
 exact hany
theorem ll {id:Nat} {ops:Array Oper} {draw:Bool} {c:C} (hm:P.follows .mixedOrders=true) (hc:oz P ops.toList draw=some c) {K:Ex→List AV→Sto→Prop} {env:List AV} {σ:Sto} {a:Act} {w:World} {Q:Exit→Act→World→Prop}
  {m0:Nat} (h:wpC P m0 c K env σ) (hS:SR γe φ0 we σ0 env σ a w) (hQ:∀ env σ a w,K .normal env σ→SR γe φ0 we σ0 env σ a w→Q .normal a w) (hP:∀ c a dst v w,Q (.panic c) (Act.put a dst v) w→Q (.panic c) a w):(Code.region id ops draw).wp P Q a w:=by
 unfold oz at hc
 split at hc
 ·cases hc
 ·rename_i l hl
  cases draw with
  | false=>
   simp only[Bool.false_eq_true,if_false,zj]at hc
   subst hc
   simp only[wpC]at h
   exact wp_region_list (dd (ops:=ops) ops.toList l hl h hS hQ)
  | true=>
   simp only[if_true]at hc
   split at hc
   rotate_left
   ·split at hc
    ·rename_i hcond
     simp only[zj]at hc
     subst hc
     simp only[wpC]at h
     simp only[Bool.and_eq_true,decide_eq_true_eq]at hcond
     obtain⟨⟨⟨⟨⟨hpre,hmle⟩,hfo⟩,hful⟩,hseq⟩,hsel⟩:=hcond
     simp only[List.all_eq_true,List.mem_range]at hful
     exact yt hm hl hmle hpre hfo hful hseq hsel h hS hQ hP
    split at hc
    ·rename_i hcond
     simp only[zj]at hc
     subst hc
     simp only[wpC]at h
     simp only[Bool.and_eq_true,List.all_eq_true,List.mem_range]at hcond
     obtain⟨⟨⟨⟨hpre,hful⟩,hfl⟩,hseq⟩,hsel⟩:=hcond
     have hle:∀ ms n,db ms n≤n:=by
      intro ms n
      induction n with
      | zero=>simp [db]
      | succ n ih=>simp only[db];split<;>omega
     have hle2:∀ ms n,y6 ops.toList ms n≤n:=by
      intro ms n
      induction n with
      | zero=>simp [y6]
      | succ n ih=>simp only[y6];split<;>omega
     exact xh hm hl (hle _ _) (hle2 _ _) hpre hful hfl hseq hsel h hS hQ hP
    ·cases hc
   split at hc
   ·rename_i hcond
    simp only[zj]at hc
    subst hc
    simp only[wpC]at h
    simp only[Bool.and_eq_true,List.all_eq_true,List.mem_range]at hcond
    obtain⟨⟨⟨hpre,hful⟩,hseq⟩,_⟩:=hcond
    generalize hmm:db (aK [] ops.toList) ops.toList.length=m at*
    have hmle:m≤ops.toList.length:=by
     rw[← hmm]
     have:∀ ms n,db ms n≤n:=by
      intro ms n
      induction n with
      | zero=>simp [db]
      | succ n ih=>simp only[db];split<;>omega
     exact this _ _
    obtain⟨h1,h2⟩:=cB ops.toList l m hl
    obtain⟨R,N,W,hK,hst⟩:=gG (ops.toList.take m) (l.take m) h1 h
    have htl:(ops.toList.take m).length=m:=by simp at hmle ⊢;omega
    have henv:∀ i,i≤m→aQ (ops.toList.take m) R env i=aQ ops.toList R env i:=by
     intro i
     induction i with
     | zero=>intro _;rfl
     | succ i ih=>
      intro hi
      rw[aQ,aQ,ih (by omega)]
      congr 1
      simp only[bi,List.getElem?_take,show i<m by omega,if_true]
    rw[htl,henv m (Nat.le_refl _)]at hK
    have hst':∀ (i:Nat) (o:Oper),i<m→ops.toList[i]? =some o→Step1 P ops.toList o (aQ ops.toList R env i) (stAt N σ i) (R i) (N i) (W i):=by
     intro i o hi ho
     have:=hst i o (by rw[List.getElem?_take,if_pos hi];exact ho)
     rwa [henv i (by omega)]at this
    refine wp_region_any hm ?_
    obtain⟨γ,φ,hKst,hSim,hE,hd,hfix⟩:=hS
    have hnone:∀ j,(Array.replicate ops.size false).getD j false=false:=fun j=>getD_replicate_false _ _
    have hsx:stX m N σ (Array.replicate ops.size false)=at_ σ:=mD (fun j _=>hnone j) (fun k hk=>by
     obtain⟨l',hl'⟩:=lh (N:=N) (σ:=σ) 0 m
     rw[Nat.zero_add]at hl'
     rw[hl']
     simp only[at_,stAt]
     rw[List.getElem?_append_left hk])
    have hI:HInv ops.toList m ops.toList.length R N env σ γe φ0 we σ0 (Array.replicate ops.size false) a w.drew:=by
     refine⟨by simp,fun t _ _=>hnone t,fun j o _ hlj=>(by rw[hnone j]at hlj;cases hlj),γ,φ,hKst.trans (Kst.drew _ _), ?_, ?_,fun t ht=> ?_,hd, ?_⟩
     ·rw[hsx];exact hSim.drew
     ·have:=hE.len;simpa using this
     ·rw[hsx]
      unfold valX
      cases hw:aY ops.toList m t with
      | none=>exact Rel.mono (Kst.drew γ w) (Live.refl _ _ _ _) _ _ (du hE t)
      | some j=>simp only[hnone j,Bool.false_eq_true,if_false,Rel]
     ·rw[hsx];exact hfix
    have hany:=zA (Q:=Q) hpre hmle (fun t h1 h2=>by have:=hful (t-m) (by omega);rwa [show m+(t-m)=t by omega]at this) hseq hst' (fun a w hS'=>dd (ops:=ops) (ops.toList.drop m) (l.drop m) h2 hK hS' hQ)
     (unl m (Array.replicate ops.size false)) _ a w.drew hI rfl
    have hul:unl m (Array.replicate ops.size false)=m:=by
     unfold unl
     rw[List.filter_eq_self.2 (fun j _=>by rw[hnone j];rfl)]
     simp
    rw[hul,show m+(ops.toList.length-m)=ops.size by simp at hmle ⊢;omega]at hany
    exact hany
   ·cases hc
end
end Go.Lift
namespace Go.Lift
open Go.RowKit
section
variable {P : Program} {γe : Labels} {φ0 : Nat → Nat} {we : World} {σ0 : Sto}
theorem qT (n:Nat) (σ:Sto) (k:Nat):at_ (eJ n σ) k=if k<n then (at_ σ k).map (fun R=>{ R with cells:=rnL (cut n) R.cells }) else none:=by
 unfold eJ at_
 rw[List.getElem?_map,List.getElem?_take]
 split
 ·cases σ[k]? with
  | none=>rfl
  | some x=>cases x<;>rfl
 ·rfl
theorem te (n:Nat) (σ:Sto) (φ:Nat→Nat):Ren (cut n) φ (at_ σ) φ (at_ (eJ n σ)):=by
 refine⟨fun k k' R hk hR=> ?_,fun k' R' hR'=> ?_,fun k1 k2 k' h1 h2=> ?_⟩
 ·unfold cut at hk
  split at hk
  ·rename_i hlt
   simp only[zj]at hk
   subst hk
   exact⟨rfl,by rw[qT,if_pos hlt,hR];rfl⟩
  ·cases hk
 ·rw[qT]at hR'
  split at hR'
  ·rename_i hlt
   simp only[zm]at hR'
   obtain⟨R,hR,_⟩:=hR'
   exact⟨k',R,by simp [cut,hlt],hR⟩
  ·cases hR'
 ·unfold cut at h1 h2
  split at h1
  ·split at h2
   ·simp only[zj]at h1 h2
    omega
   ·cases h2
  ·cases h1
theorem wv (live:List Nat) (n:Nat):∀ (l:List AV) (i:Nat),(bg live n i l).length=l.length
 | [],_=>rfl
 | x :: l,i=>by simp [bg,wv live n l]
theorem ww (live:List Nat) (n:Nat):∀ (l:List AV) (i j:Nat),(bg live n i l)[j]? =(l[j]?).map fun x=>if live.contains (i+j) then rn (cut n) x else .any
 | [],_,_=>by simp [bg]
 | x :: l,i,0=>by simp [bg]
 | x :: l,i,j+1=>by
  simp only[bg,List.getElem?_cons_succ]
  rw[ww live n l (i+1) j,show i+1+j=i+(j+1)by omega]
theorem cg {e e':List AV} {σ σ':Sto} {a:Act} {w:World} (h:Wk σ0.length e σ e' σ'):SR γe φ0 we σ0 e σ a w→SR γe φ0 we σ0 e' σ' a w:=by
 rintro⟨γ,φ,hK,hS,hE,hd,hfix⟩
 obtain⟨γ',φ',hK',hS',hE',hf⟩:=h γ φ w _ hS hE
 refine⟨γ',φ',hK.trans hK',hS',hE',hd,fun k R hR hg=> ?_⟩
 obtain⟨h1,R1,h2,h3⟩:=hfix k R hR hg
 have hk:k<σ0.length:=by
  by_cases hlt:k<σ0.length
  ·exact hlt
  ·simp [at_,List.getElem?_eq_none (Nat.le_of_not_lt hlt)]at hR
 obtain⟨h4,R2,h5,h6⟩:=hf k R1 hk h2 h3
 exact⟨h1.trans h4,R2,h5,h6⟩
theorem Wk.keep {m0:Nat} (live:List Nat) (n:Nat) (e:List AV) (σ:Sto) (hn:m0≤n):Wk m0 e σ (bu live n e) (eJ n σ):=by
 intro γ φ w vs hS hE
 obtain⟨hK',hS'⟩:=hS.rn (te n σ φ)
 refine⟨_,φ,hK',hS',RelL.of_get ?_ fun i x hx=> ?_,fun k R hk hR hg=> ?_⟩
 ·have:=hE.len;simpa [bu,wv]using this
 ·unfold bu at hx
  rw[ww]at hx
  simp only[zm]at hx
  obtain⟨y,hy,rfl⟩:=hx
  obtain⟨v,hv,hr⟩:=hE.get hy
  refine⟨v,hv, ?_⟩
  split
  ·exact Rel.rn (te n σ φ) y v hr
  ·simp [Rel]
 ·have hk':k<n:=by omega
  exact⟨⟨rfl,fun hl=>by simp [hl,Lab.rn,cut,hk']⟩,{ R with cells:=rnL (cut n) R.cells },by rw[qT,if_pos hk',hR];rfl,hg⟩
theorem Wk.nilE {m0:Nat} (t z:Nat) (e:List AV) (σ:Sto) (ht:e[t]? =some .nil):Wk m0 e σ (e.set t (.own σ.length 0 0)) (σ++[some ⟨z,true,[]⟩]):=by
 intro γ φ w vs hS hE
 have hnone:at_ σ σ.length=none:=by simp [at_]
 have hat:at_ (σ++[some ⟨z,true,[]⟩])=upd (at_ σ) σ.length (some ⟨z,true,[]⟩):=by rw[rZ,mL]
 obtain⟨hL,hS'⟩:=hS.virt hnone z
 refine⟨γ,φ,Kst.refl _ _,by rw[hat];exact hS', ?_,fun k R hk hR hg=> ?_⟩
 ·rw[hat]
  have hE':=RelL.mono (Kst.refl _ _) hL _ _ hE
  refine RelL.of_get (by have:=hE.len;simpa using this) fun i x hx=> ?_
  rw[List.getElem?_set]at hx
  split at hx
  ·rename_i hti
   subst hti
   split at hx
   ·simp only[zj]at hx
    subst hx
    obtain⟨v,hv,hr⟩:=hE'.get ht
    refine⟨v,hv, ?_⟩
    rw[dt hr]
    simp only[Rel]
    exact⟨_,aG _ _ _,.inl ⟨trivial,trivial,trivial⟩⟩
   ·cases hx
  ·exact hE'.get hx
 ·have hne:k≠σ.length:=fun e=>by rw[e,hnone]at hR;cases hR
  exact⟨Stay.refl,R,by rw[hat,aw _ _ hne];exact hR,hg⟩
theorem Wk.nilS {m0:Nat} (k j z:Nat) (R:Root) (e:List AV) (σ:Sto) (hk:σ[k]? =some (some R)) (hj:R.cells[j]? =some .nil):
  Wk m0 e σ e (σ.set k (some { R with cells:=R.cells.set j (.own σ.length 0 0) })++[some ⟨z,true,[]⟩]):=by
 intro γ φ w vs hS hE
 have hnone:at_ σ σ.length=none:=by simp [at_]
 have hR:at_ σ k=some R:=by simp [at_,hk]
 have hlt:k<σ.length:=(List.getElem?_eq_some_iff.1 hk).1
 have hne:k≠σ.length:=by omega
 have hat:at_ (σ.set k (some { R with cells:=R.cells.set j (.own σ.length 0 0) })++[some ⟨z,true,[]⟩])=upd (upd (at_ σ) σ.length (some ⟨z,true,[]⟩)) k (some { R with cells:=R.cells.set j (.own σ.length 0 0) }):=by
  rw[rZ,mL,vo σ hR,List.length_set]
  funext i
  simp only[upd]
  by_cases e1:i=σ.length
  ·subst e1;simp [Ne.symm hne]
  ·by_cases e2:i=k<;>simp [e1,e2,hne]
 obtain⟨hL,hS'⟩:=hS.virt hnone z
 have hR':upd (at_ σ) σ.length (some ⟨z,true,[]⟩) k=some R:=by rw[aw _ _ hne];exact hR
 rcases hS'.root k R hR' with h0 | ⟨cur,T,hh,hg,hl,hcells⟩
 ·simp [h0]at hj
 obtain⟨hK2,hL2,hS2⟩:=hS'.setRow hR' hh hg cur rfl (R.cells.set j (.own σ.length 0 0)) (by simpa using hl) (fun i av hav=>by
   rw[List.getElem?_set]at hav
   split at hav
   ·rename_i hji
    subst hji
    split at hav
    ·simp only[zj]at hav
     subst hav
     obtain⟨v,hv,hr⟩:=hcells j _ hj
     refine⟨v,hv,CRel.of_rel ?_⟩
     simp only[CRel]at hr
     rw[dt hr]
     simp only[Rel]
     exact⟨_,aG _ _ _,.inl ⟨trivial,trivial,trivial⟩⟩
    ·cases hav
   ·exact hcells i av hav) (fun i x hx=>by
   have hij:j≠i:=fun e=>by rw[← e,hj]at hx;cases hx
   exact⟨⟨x,by rw[List.getElem?_set,if_neg hij];exact hx⟩,rfl⟩)
 rw[setRow_self w _ cur T (0,0) hh]at hK2 hL2 hS2
 refine⟨γ,φ,Kst.refl _ _,by rw[hat];exact hS2, ?_,fun i Ri hi hRi hgi=> ?_⟩
 ·rw[hat]
  exact RelL.mono hK2 hL2 _ _ (RelL.mono (Kst.refl _ _) hL _ _ hE)
 ·obtain⟨_,R2,h4,_,h5,_⟩:=hL i Ri hRi
  obtain⟨_,R3,h6,_,h7,_⟩:=hL2 i R2 h4
  exact⟨Stay.refl,R3,by rw[hat];exact h6,goff h7 (goff h5 hgi)⟩
def Ex.to:Ex→Exit
 | .normal=>.normal
 | .exit id=>.exit id
 | .ret=>.ret
theorem lq {p:Nat→Prop} (h:∃ n,p n):∃ n,p n∧∀ k,p k→n≤k:=by
 obtain⟨n,hn⟩:=h
 induction n using Nat.strongRecOn with
 | _ n ih=>
  by_cases hc:∃ k,k<n∧p k
  ·obtain⟨k,hk,hp⟩:=hc
   exact ih k hk hp
  ·exact⟨n,hn,fun k hk=>Nat.le_of_not_lt fun hlt=>hc ⟨k,hlt,hk⟩⟩
theorem sC {ops:List Oper} {draw:Bool} {c:C} (h:oz P ops draw=some c):(∃ l,c=.reg l)∨∃ p t,c=.draw p t:=by
 unfold oz at h
 split at h
 ·cases h
 ·split at h
  ·simp only at h
   split at h
   ·split at h
    ·simp only[zj]at h
     exact .inr ⟨_,_,h.symm⟩
    ·cases h
   ·split at h
    ·simp only[zj]at h
     exact .inr ⟨_,_,h.symm⟩
    split at h
    ·simp only[zj]at h
     exact .inr ⟨_,_,h.symm⟩
    ·cases h
  ·simp only[zj]at h
   exact .inl ⟨_,h.symm⟩
theorem cL {cd:Code} {c:C} (h:cU P cd=some c):match c with
  | .skip=>cd=.skip
  | .reg _=>∃ id ops draw,cd=.region id ops draw
  | .draw _ _=>∃ id ops draw,cd=.region id ops draw
  | .drawK _ _=>False
  | .drawW _ _ _ _=>False
  | .seq a b=>∃ x y,cd=.seq x y∧cU P x=some a∧cU P y=some b
  | .cond c a b=>∃ o x y,cd=.cond o x y∧cO o=some c∧cU P x=some a∧cU P y=some b
  | .block id b=>∃ x,cd=.block id x∧cU P x=some b
  | .loop b=>∃ x,cd=.loop x∧cU P x=some b
  | .exit id=>cd=.exit id
  | .ret=>cd=.ret
  | .gh _=>False:=by
 cases cd with
 | skip=>simp only[cU,zj]at h;subst h;trivial
 | region id ops draw=>
  simp only[cU]at h
  rcases sC h with ⟨l,rfl⟩ | ⟨p,t,rfl⟩<;>exact⟨_,_,_,rfl⟩
 | seq x y=>
  simp only[cU]at h
  split at h
  ·rename_i c1 c2 h1 h2
   simp only[zj]at h
   subst h
   exact⟨x,y,rfl,h1,h2⟩
  ·cases h
 | cond o x y=>
  simp only[cU]at h
  split at h
  ·rename_i o' c1 c2 ho h1 h2
   simp only[zj]at h
   subst h
   exact⟨o,x,y,rfl,ho,h1,h2⟩
  ·cases h
 | block id b=>
  simp only[cU,zm]at h
  obtain⟨c1,h1,rfl⟩:=h
  exact⟨b,rfl,h1⟩
 | loop b=>
  simp only[cU,zm]at h
  obtain⟨c1,h1,rfl⟩:=h
  exact⟨b,rfl,h1⟩
 | exit id=>simp only[cU,zj]at h;subst h;trivial
 | ret=>simp only[cU,zj]at h;subst h;trivial
 | _=>simp [cU]at h
theorem BQ (hm:P.follows .mixedOrders=true):∀ (c:C) (cd:Code),cU P cd=some c.erase→∀ {K:Ex→List AV→Sto→Prop} {env:List AV} {σ:Sto} {a:Act} {w:World} {Q:Exit→Act→World→Prop},wpC P σ0.length c K env σ→SR γe φ0 we σ0 env σ a w→
  (∀ x env σ a w,K x env σ→SR γe φ0 we σ0 env σ a w→Q x.to a w)→(∀ c a dst v w,Q (.panic c) (Act.put a dst v) w→Q (.panic c) a w)→cd.wp P Q a w:=by
 intro c
 induction c with
 | skip=>
  intro cd hc K env σ a w Q h hS hQ hP
  have hi:cd=.skip:=cL hc
  subst hi
  exact wp_skip (hQ .normal _ _ _ _ h hS)
 | reg l=>
  intro cd hc K env σ a w Q h hS hQ hP
  obtain⟨id,ops,draw,rfl⟩:=cL hc
  simp only[cU]at hc
  exact ll hm hc h hS (fun env σ a w hk hs=>hQ .normal env σ a w hk hs) hP
 | draw p t=>
  intro cd hc K env σ a w Q h hS hQ hP
  obtain⟨id,ops,draw,rfl⟩:=cL hc
  simp only[cU]at hc
  exact ll hm hc h hS (fun env σ a w hk hs=>hQ .normal env σ a w hk hs) hP
 | drawK p t=>
  intro cd hc K env σ a w Q h hS hQ hP
  exact(cL hc).elim
 | drawW p q m t=>
  intro cd hc K env σ a w Q h hS hQ hP
  exact(cL hc).elim
 | seq x y ihx ihy=>
  intro cd hc K env σ a w Q h hS hQ hP
  obtain⟨c1,c2,rfl,h1,h2⟩:=cL hc
  simp only[wpC]at h
  refine wp_seq (ihx c1 h1 h hS (fun x env σ a w hk hs=> ?_) hP)
  cases x with
  | normal=>exact ihy c2 h2 hk hs hQ hP
  | exit id=>exact hQ (.exit id) _ _ _ _ hk hs
  | ret=>exact hQ .ret _ _ _ _ hk hs
 | cond o x y ihx ihy=>
  intro cd hc K env σ a w Q h hS hQ hP
  obtain⟨o',c1,c2,rfl,ho,h1,h2⟩:=cL hc
  simp only[wpC]at h
  split at h
  ·rename_i t ht
   have hS0:=hS
   obtain⟨γ,φ,hK,hSim,hE,hd,hfix⟩:=hS0
   have hr:=xH hE ho
   rw[ht]at hr
   have hv:=de hr
   refine wp_cond hv ?_
   cases t with
   | true=>simp only[if_true]at h ⊢;exact ihx c1 h1 h hS hQ hP
   | false=>simp only[Bool.false_eq_true,if_false]at h ⊢;exact ihy c2 h2 h hS hQ hP
  ·exact h.elim
 | block id b ih=>
  intro cd hc K env σ a w Q h hS hQ hP
  obtain⟨c1,rfl,h1⟩:=cL hc
  simp only[wpC]at h
  refine wp_block (ih c1 h1 h hS (fun x env σ a w hk hs=> ?_) hP)
  cases x with
  | normal=>exact hQ .normal _ _ _ _ hk hs
  | exit i=>
   simp only[Ex.to,Exit.inBlock]
   simp only at hk
   split
   ·rename_i e
    rw[if_pos e]at hk
    exact hQ .normal _ _ _ _ hk hs
   ·rename_i e
    rw[if_neg e]at hk
    exact hQ (.exit i) _ _ _ _ hk hs
  | ret=>exact hQ .ret _ _ _ _ hk hs
 | loop b ih=>
  intro cd hc K env σ a w Q h hS hQ hP
  obtain⟨c1,rfl,h1⟩:=cL hc
  simp only[wpC]at h
  obtain⟨J,⟨m,e',σ',hw,hJ⟩,hround⟩:=h
  have key:∀ a w,∃ μ:Nat,(∃ n e σ,J n e σ∧SR γe φ0 we σ0 e σ a w)→(∃ e σ,J μ e σ∧SR γe φ0 we σ0 e σ a w)∧∀ k,(∃ e σ,J k e σ∧SR γe φ0 we σ0 e σ a w)→μ≤k:=by
   intro a w
   by_cases hx:∃ n e σ,J n e σ∧SR γe φ0 we σ0 e σ a w
   ·obtain⟨μ,h1,h2⟩:=lq (p:=fun n=>∃ e σ,J n e σ∧SR γe φ0 we σ0 e σ a w) hx
    exact⟨μ,fun _=>⟨h1,h2⟩⟩
   ·exact⟨0,fun h=>absurd h hx⟩
  refine wp_loop (fun a w=>∃ n e σ,J n e σ∧SR γe φ0 we σ0 e σ a w) (fun a w=>Classical.choose (key a w)) ⟨m,e',σ',hJ,cg hw hS⟩ fun a w hI=> ?_
  obtain⟨⟨e,σ,hJ,hs⟩,hmin⟩:=Classical.choose_spec (key a w) hI
  refine ih c1 h1 (hround _ e σ hJ) hs (fun x env σ a' w' hk hs'=> ?_) hP
  cases x with
  | normal=>
   obtain⟨m',e2,σ2,hlt,hw2,hJ2⟩:=hk
   have hI':∃ n e σ,J n e σ∧SR γe φ0 we σ0 e σ a' w':=⟨m',e2,σ2,hJ2,cg hw2 hs'⟩
   refine⟨hI', ?_⟩
   have:=(Classical.choose_spec (key a' w') hI').2 m' ⟨e2,σ2,hJ2,cg hw2 hs'⟩
   exact Nat.lt_of_le_of_lt this hlt
  | exit id=>exact hQ (.exit id) _ _ _ _ hk hs'
  | ret=>exact hQ .ret _ _ _ _ hk hs'
 | exit id=>
  intro cd hc K env σ a w Q h hS hQ hP
  have hi:cd=.exit id:=cL hc
  subst hi
  exact wp_exit (hQ (.exit id) _ _ _ _ h hS)
 | ret=>
  intro cd hc K env σ a w Q h hS hQ hP
  have hi:cd=.ret:=cL hc
  subst hi
  exact wp_ret (hQ .ret _ _ _ _ h hS)
 | gh x ih=>
  intro cd hc K env σ a w Q h hS hQ hP
  simp only[wpC]at h
  refine ih cd hc h hS (fun x env σ a w hk hs=> ?_) hP
  cases x with
  | normal=>
   obtain⟨e',σ',hw,hk⟩:=hk
   exact hQ .normal _ _ _ _ hk (cg hw hs)
  | exit id=>exact hQ (.exit id) _ _ _ _ hk hs
  | ret=>exact hQ .ret _ _ _ _ hk hs
end
end Go.Lift
