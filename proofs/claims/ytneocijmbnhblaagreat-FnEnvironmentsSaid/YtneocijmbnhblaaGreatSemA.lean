/-
 Semirings as plain laws, part 1: finite sums of integers, and the products of polynomials (cut off, or with x^4 = -1) by structure constants. No condition.
-/
import Derived.Test.YtneocijmbnhblaaGreatLift28
set_option linter.unusedSimpArgs false
set_option linter.unusedVariables false
namespace Go.Proofs.YtneocijmbnhblaaGreat.Plain
def smF (f:Nat→Int):Nat→Int
 | 0=>0
 | k+1=>smF f k+f k
theorem aP {f g:Nat→Int}:∀ {n:Nat},(∀ i,i<n→f i=g i)→smF f n=smF g n
 | 0,_=>rfl
 | n+1,h=>by rw[smF,smF,aP fun i hi=>h i (by omega),h n (by omega)]
theorem ig:∀ n,smF (fun _=>0) n=0
 | 0=>rfl
 | n+1=>by rw[smF,ig n];rfl
theorem pk (f g:Nat→Int):∀ n,smF (fun i=>f i+g i) n=smF f n+smF g n
 | 0=>rfl
 | n+1=>by rw[smF,smF,smF,pk f g n];omega
theorem fA (c:Int) (f:Nat→Int):∀ n,c*smF f n=smF (fun i=>c*f i) n
 | 0=>Int.mul_zero c
 | n+1=>by rw[smF,smF,Int.mul_add,fA c f n]
theorem lP (c:Int) (f:Nat→Int) (n:Nat):smF f n*c=smF (fun i=>f i*c) n:=by
 rw[Int.mul_comm,fA]
 exact aP fun i _=>Int.mul_comm ..
theorem eH (f:Nat→Nat→Int) (m:Nat):∀ n,smF (fun i=>smF (fun j=>f i j) m) n=smF (fun j=>smF (fun i=>f i j) n) m
 | 0=>(ig m).symm
 | n+1=>by
  rw[smF,eH f m n, ← pk]
  rfl
theorem sP {f:Nat→Int} {k:Nat}:∀ {n:Nat},k<n→(∀ i,i<n→i≠k→f i=0)→smF f n=f k
 | 0,h,_=>by omega
 | n+1,h,h0=>by
  rw[smF]
  by_cases e:k=n
  ·subst e
   rw[aP (g:=fun _=>0) fun i hi=>h0 i (by omega) (by omega),ig]
   omega
  ·rw[sP (n:=n) (by omega) fun i hi=>h0 i (by omega),h0 n (by omega) (Ne.symm e)]
   omega
theorem sQ {f g:Nat→Int} {p:Int}:∀ {n:Nat},(∀ i,i<n→f i % p=g i % p)→smF f n % p=smF g n % p
 | 0,_=>rfl
 | n+1,h=>by
  rw[smF,smF,Int.add_emod,sQ fun i hi=>h i (by omega),h n (by omega), ← Int.add_emod]
def sgK (b:Bool) (i j k:Nat):Int:=if i+j=k then 1 else if b=true∧i+j=k+4 then -1 else 0
theorem zj (b:Bool) (i j k:Nat):sgK b i j k=sgK b j i k:=by unfold sgK;rw[Nat.add_comm i j]
def cvF (b:Bool) (w:Nat) (x y:Nat→Int) (k:Nat):Int:=smF (fun i=>smF (fun j=>sgK b i j k*(x i*y j)) w) w
theorem sA {b:Bool} {w:Nat} {x x' y y':Nat→Int} (hx:∀ i,i<w→x i=x' i) (hy:∀ i,i<w→y i=y' i) (k:Nat):cvF b w x y k=cvF b w x' y' k:=
 aP fun i hi=>aP fun j hj=>by rw[hx i hi,hy j hj]
theorem B9 (b:Bool) (w:Nat) (x y:Nat→Int) (k:Nat):cvF b w x y k=cvF b w y x k:=by
 unfold cvF
 rw[eH]
 exact aP fun i _=>aP fun j _=>by rw[zj,Int.mul_comm (x j)]
theorem tQ {b:Bool} {w:Nat} {x x' y y':Nat→Int} {p:Int} (hx:∀ i,i<w→x i % p=x' i % p) (hy:∀ i,i<w→y i % p=y' i % p) (k:Nat):cvF b w x y k % p=cvF b w x' y' k % p:=
 sQ fun i hi=>sQ fun j hj=>by
  have e:(x i*y j) % p=(x' i*y' j) % p:=by rw[Int.mul_emod,hx i hi,hy j hj, ← Int.mul_emod]
  rw[Int.mul_emod,e, ← Int.mul_emod]
theorem CT (b:Bool) (w:Nat) (x y z:Nat→Int) (k:Nat):cvF b w x (fun j=>y j+z j) k=cvF b w x y k+cvF b w x z k:=by
 unfold cvF
 rw[← pk]
 refine aP fun i _=> ?_
 rw[← pk]
 exact aP fun j _=>by rw[Int.mul_add,Int.mul_add]
theorem B8 (b:Bool) (w:Nat) (y:Nat→Int) (k:Nat):cvF b w (fun _=>0) y k=0:=by
 unfold cvF
 rw[aP (g:=fun _=>0) fun i _=> ?_,ig]
 rw[aP (g:=fun _=>0) fun j _=> ?_,ig]
 rw[Int.zero_mul,Int.mul_zero]
theorem CS {b:Bool} {w:Nat} (hb:b=true→w=4) (y:Nat→Int) {k:Nat} (hk:k<w):cvF b w (fun i=>if i=0 then 1 else 0) y k=y k:=by
 unfold cvF
 rw[sP (k:=0) (by omega) fun i _ hne=> ?_]
 ·rw[sP (k:=k) hk fun j hj hne=> ?_]
  ·simp [sgK]
  ·have h1:¬ 0+j=k:=by omega
   have h2:¬ (b=true∧0+j=k+4):=fun h=>by have:=hb h.1;omega
   rw[sgK,if_neg h1,if_neg h2,Int.zero_mul]
 ·rw[aP (g:=fun _=>0) fun j _=> ?_,ig]
  show sgK b i j k*((if i=0 then 1 else 0)*y j)=0
  rw[if_neg hne,Int.zero_mul,Int.mul_zero]
theorem xU {b:Bool} {w:Nat} (hw:w≤6) (hb:b=true→w=4) {i j m k:Nat} (hi:i<w) (hj:j<w) (hm:m<w) (hk:k<w):
  smF (fun l=>sgK b i j l*sgK b l m k) w=smF (fun l=>sgK b j m l*sgK b i l k) w:=by
 cases b with
 | false=>
  have h:∀ w,w<7→∀ i,i<w→∀ j,j<w→∀ m,m<w→∀ k,k<w→smF (fun l=>sgK false i j l*sgK false l m k) w=smF (fun l=>sgK false j m l*sgK false i l k) w:=by decide+kernel
  exact h w (by omega) i hi j hj m hm k hk
 | true=>
  obtain rfl:=hb rfl
  have h:∀ i,i<4→∀ j,j<4→∀ m,m<4→∀ k,k<4→smF (fun l=>sgK true i j l*sgK true l m k) 4=smF (fun l=>sgK true j m l*sgK true i l k) 4:=by decide+kernel
  exact h i hi j hj m hm k hk
theorem yO {b:Bool} {w:Nat} (hw:w≤6) (hb:b=true→w=4) (x y z:Nat→Int) {k:Nat} (hk:k<w):cvF b w (cvF b w x y) z k=cvF b w x (cvF b w y z) k:=by
 have e1:cvF b w (cvF b w x y) z k=smF (fun i=>smF (fun j=>smF (fun m=>smF (fun l=>sgK b i j l*sgK b l m k) w*(x i*y j*z m)) w) w) w:=by
  have a1:cvF b w (cvF b w x y) z k=smF (fun l=>smF (fun m=>smF (fun i=>smF (fun j=>sgK b i j l*sgK b l m k*(x i*y j*z m)) w) w) w) w:=by
   refine aP fun l _=>aP fun m _=> ?_
   unfold cvF
   rw[lP,fA]
   refine aP fun i _=> ?_
   rw[lP,fA]
   exact aP fun j _=>by grind
  rw[a1]
  rw[aP fun l _=>eH (fun m i=>smF (fun j=>sgK b i j l*sgK b l m k*(x i*y j*z m)) w) w w]
  rw[eH (fun l i=>smF (fun m=>smF (fun j=>sgK b i j l*sgK b l m k*(x i*y j*z m)) w) w) w w]
  refine aP fun i _=> ?_
  rw[aP fun l _=>eH (fun m j=>sgK b i j l*sgK b l m k*(x i*y j*z m)) w w]
  rw[eH (fun l j=>smF (fun m=>sgK b i j l*sgK b l m k*(x i*y j*z m)) w) w w]
  refine aP fun j _=> ?_
  rw[eH (fun l m=>sgK b i j l*sgK b l m k*(x i*y j*z m)) w w]
  exact aP fun m _=>(lP ..).symm
 have e2:cvF b w x (cvF b w y z) k=smF (fun i=>smF (fun j=>smF (fun m=>smF (fun l=>sgK b j m l*sgK b i l k) w*(x i*y j*z m)) w) w) w:=by
  have a1:cvF b w x (cvF b w y z) k=smF (fun i=>smF (fun l=>smF (fun j=>smF (fun m=>sgK b j m l*sgK b i l k*(x i*y j*z m)) w) w) w) w:=by
   refine aP fun i _=>aP fun l _=> ?_
   unfold cvF
   rw[fA,fA]
   refine aP fun j _=> ?_
   rw[fA,fA]
   exact aP fun m _=>by grind
  rw[a1]
  refine aP fun i _=> ?_
  rw[eH (fun l j=>smF (fun m=>sgK b j m l*sgK b i l k*(x i*y j*z m)) w) w w]
  refine aP fun j _=> ?_
  rw[eH (fun l m=>sgK b j m l*sgK b i l k*(x i*y j*z m)) w w]
  exact aP fun m _=>(lP ..).symm
 rw[e1,e2]
 exact aP fun i hi=>aP fun j hj=>aP fun m hm=>by rw[xU hw hb hi hj hm hk]
section
variable {r : Rg} {x y out : List Int} {w : Nat}
def k8 (r:Rg):Bool:=decide (r.k=8)
theorem mF {xs:List Int} {n k:Nat} {v:Int} (hn:n<xs.length):(xs.set n v).getD k 0=if k=n then v else xs.getD k 0:=by
 rw[List.getD_eq_getElem?_getD,List.getD_eq_getElem?_getD,List.getElem?_set]
 by_cases e:n=k
 ·subst e;simp [hn]
 ·rw[if_neg e,if_neg (Ne.symm e)]
theorem yi (hp:2≤r.p∧r.p≤1000003) (h8:k8 r=true→w=4) (ho:lowP r.p out) (hl:out.length=w) {i j:Nat} {a b:Int} (hi:i<w) (hj:j<w) (ha:0≤a∧a<r.p) (hb:0≤b∧b<r.p) {k:Nat} (hk:k<w):
  (mg r out i j a b).getD k 0=(out.getD k 0+sgK (k8 r) i j k*(a*b)) % r.p:=by
 have hab:=sZ ha hb hp.2
 have hkk:=ho.at (by omega) k
 have same:out.getD k 0=(out.getD k 0+0) % r.p:=by rw[Int.add_zero,Int.emod_eq_of_lt hkk.1 hkk.2]
 unfold mg
 rw[hl]
 by_cases h1:i+j<w
 ·rw[if_pos h1,mF (by omega)]
  by_cases e:k=i+j
  ·subst e
   rw[if_pos rfl,sgK,if_pos rfl,Int.one_mul,tm (by omega)]
  ·have h2:¬ (k8 r=true∧i+j=k+4):=fun h=>by have:=h8 h.1;omega
   rw[if_neg e,sgK,if_neg (Ne.symm e),if_neg h2,Int.zero_mul]
   exact same
 ·have e0:¬ i+j=k:=by omega
  rw[if_neg h1]
  by_cases h3:r.k=8
  ·have hw4:=h8 (by simp [k8,h3])
   rw[if_pos h3,mF (by omega)]
   by_cases e:k=i+j-4
   ·have e4:i+j=k+4:=by omega
    have hpa:0≤(r.p-a)*b:=Int.mul_nonneg (by omega) hb.1
    have hx:(r.p-a)*b= -1*(a*b)+r.p*b:=by grind
    rw[if_pos e,sgK,if_neg e0,if_pos ⟨by simp [k8,h3],e4⟩, ← e,tm (by omega),hx, ← Int.add_assoc,Int.add_mul_emod_self_left]
   ·rw[if_neg e,sgK,if_neg e0,if_neg fun h=>e (by omega),Int.zero_mul]
    exact same
  ·rw[if_neg h3,sgK,if_neg e0,if_neg fun h=>h3 (by simpa [k8]using h.1),Int.zero_mul]
   exact same
theorem mf (hp:2≤r.p∧r.p≤1000003) (h8:k8 r=true→w=4) (ho:lowP r.p out) (hl:out.length=w) {i:Nat} {a:Int} (hi:i<w) (ha:0≤a∧a<r.p) (hy:lowP r.p y) {k:Nat} (hk:k<w):
  ∀ j,j≤w→(bT r y i a out j).getD k 0=(out.getD k 0+smF (fun j=>sgK (k8 r) i j k*(a*y.getD j 0)) j) % r.p
 | 0,_=>by
  have hkk:=ho.at (by omega) k
  rw[bT,smF,Int.add_zero,Int.emod_eq_of_lt hkk.1 hkk.2]
 | j+1,hj=>by
  obtain⟨_,h2,h3⟩:=fG (i:=i) hp ho ha hy j
  rw[bT,yi hp h8 h2 (h3.trans hl) hi (by omega) ha (hy.at (by omega) j) hk,mf hp h8 ho hl hi ha hy hk j (by omega),smF,Int.emod_add_emod,Int.add_assoc]
theorem s5 (hp:2≤r.p∧r.p≤1000003) (h8:k8 r=true→w=4) (ho:lowP r.p out) (hl:out.length=w) (hx:lowP r.p x) (hy:lowP r.p y) (ly:y.length=w) {k:Nat} (hk:k<w):
  ∀ i,i≤w→(da r x y out i).getD k 0=(out.getD k 0+smF (fun i=>smF (fun j=>sgK (k8 r) i j k*(x.getD i 0*y.getD j 0)) w) i) % r.p
 | 0,_=>by
  have hkk:=ho.at (by omega) k
  rw[da,smF,Int.add_zero,Int.emod_eq_of_lt hkk.1 hkk.2]
 | i+1,hi=>by
  obtain⟨_,h2,h3⟩:=iu hp ho hx hy i
  rw[da,ly,mf hp h8 h2 (h3.trans hl) (by omega) (hx.at (by omega) i) hy hk w (Nat.le_refl _),s5 hp h8 ho hl hx hy ly hk i (by omega),smF,Int.emod_add_emod,Int.add_assoc]
end
end Go.Proofs.YtneocijmbnhblaaGreat.Plain
namespace Go.Proofs.YtneocijmbnhblaaGreat.Sem
structure SR (E:Type) where
 add:E→E→E
 mul:E→E→E
 zero:E
 one:E
 add_assoc:∀ a b c,add (add a b) c=add a (add b c)
 add_comm:∀ a b,add a b=add b a
 zero_add:∀ a,add zero a=a
 mul_assoc:∀ a b c,mul (mul a b) c=mul a (mul b c)
 mul_comm:∀ a b,mul a b=mul b a
 one_mul:∀ a,mul one a=a
 zero_mul:∀ a,mul zero a=zero
 mul_add:∀ a b c,mul a (add b c)=add (mul a b) (mul a c)
variable {E : Type} (S : SR E)
theorem SR.add_zero (a:E):S.add a S.zero=a:=by rw[S.add_comm,S.zero_add]
theorem SR.mul_zero (a:E):S.mul a S.zero=S.zero:=by rw[S.mul_comm,S.zero_mul]
theorem SR.mul_one (a:E):S.mul a S.one=a:=by rw[S.mul_comm,S.one_mul]
theorem SR.add4 (a b c d:E):S.add (S.add a b) (S.add c d)=S.add (S.add a c) (S.add b d):=by
 rw[S.add_assoc,S.add_assoc, ← S.add_assoc b,S.add_comm b c,S.add_assoc c]
def sm (f:Nat→E):Nat→E
 | 0=>S.zero
 | k+1=>S.add (sm f k) (f k)
theorem cw {f g:Nat→E}:∀ {n:Nat},(∀ i,i<n→f i=g i)→sm S f n=sm S g n
 | 0,_=>rfl
 | n+1,h=>by rw[sm,sm,cw fun i hi=>h i (by omega),h n (by omega)]
theorem ph:∀ n,sm S (fun _=>S.zero) n=S.zero
 | 0=>rfl
 | n+1=>by rw[sm,ph n,S.zero_add]
theorem vQ (f g:Nat→E):∀ n,sm S (fun i=>S.add (f i) (g i)) n=S.add (sm S f n) (sm S g n)
 | 0=>(S.zero_add _).symm
 | n+1=>by rw[sm,sm,sm,vQ f g n,S.add4]
theorem wU (c:E) (f:Nat→E):∀ n,S.mul c (sm S f n)=sm S (fun i=>S.mul c (f i)) n
 | 0=>S.mul_zero c
 | n+1=>by rw[sm,sm,S.mul_add,wU c f n]
theorem wV (f:Nat→Nat→E) (m:Nat):∀ n,sm S (fun i=>sm S (fun j=>f i j) m) n=sm S (fun j=>sm S (fun i=>f i j) n) m
 | 0=>(ph S m).symm
 | n+1=>by
  rw[sm,wV f m n, ← vQ]
  rfl
theorem zg {f:Nat→E} {k:Nat}:∀ {n:Nat},k<n→(∀ i,i<n→i≠k→f i=S.zero)→sm S f n=f k
 | 0,h,_=>by omega
 | n+1,h,h0=>by
  rw[sm]
  by_cases e:k=n
  ·subst e
   rw[cw S (g:=fun _=>S.zero) fun i hi=>h0 i (by omega) (by omega),ph,S.zero_add]
  ·rw[zg (n:=n) (by omega) fun i hi=>h0 i (by omega),h0 n (by omega) (Ne.symm e),S.add_zero]
abbrev Asg:=Int→Nat
def up (a:Asg) (x:Int) (v:Nat):Asg:=fun y=>if y=x then v else a y
theorem iO (a:Asg) (x:Int) (v:Nat):up a x v x=v:=if_pos rfl
theorem wO {a:Asg} {x y:Int} {v:Nat} (h:y≠x):up a x v y=a y:=if_neg h
theorem BG {a:Asg} {x y:Int} {u v:Nat} (h:x≠y):up (up a x u) y v=up (up a y v) x u:=by
 funext z
 unfold up
 by_cases h1:z=y
 ·subst h1;rw[if_pos rfl,if_neg (Ne.symm h),if_pos rfl]
 ·rw[if_neg h1]
  by_cases h2:z=x
  ·rw[if_pos h2,if_pos h2]
  ·rw[if_neg h2,if_neg h2,if_neg h1]
variable (dim : Int → Nat)
def sumL:List Int→(Asg→E)→Asg→E
 | [],f,a=>f a
 | x :: L,f,a=>sm S (fun v=>sumL L f (up a x v)) (dim x)
def Reach (L:List Int) (a a':Asg):Prop:=(∀ y,y∉L→a' y=a y)∧∀ x,x∈L→a' x<dim x
theorem bA {f g:Asg→E}:∀ {L:List Int} {a:Asg},(∀ a',Reach dim L a a'→f a'=g a')→sumL S dim L f a=sumL S dim L g a
 | [],a,h=>h a ⟨fun _ _=>rfl,fun x hx=>by cases hx⟩
 | x :: L,a,h=>by
  rw[sumL,sumL]
  refine cw S fun v hv=>bA fun a' ha=>h a' ⟨fun y hy=> ?_,fun y hy=> ?_⟩
  ·rw[ha.1 y fun h=>hy (List.mem_cons_of_mem _ h),wO fun e=>hy (by rw[e];exact List.mem_cons_self)]
  ·by_cases hyL:y∈L
   ·exact ha.2 y hyL
   ·rcases List.mem_cons.1 hy with e | e
    ·subst e;rw[ha.1 y hyL,iO];exact hv
    ·exact absurd e hyL
theorem jA (f:Asg→E):∀ (L M:List Int) (a:Asg),sumL S dim (L++M) f a=sumL S dim L (sumL S dim M f) a
 | [],_,_=>rfl
 | x :: L,M,a=>by
  rw[List.cons_append,sumL,sumL]
  exact cw S fun v _=>jA f L M _
theorem fW {f:Asg→E} {L M:List Int} (h:L.Perm M):L.Nodup→∀ a,sumL S dim L f a=sumL S dim M f a:=by
 induction h with
 | nil=>exact fun _ _=>rfl
 | cons x h ih=>
  intro hn a
  rw[sumL,sumL]
  exact cw S fun v _=>ih (List.nodup_cons.1 hn).2 _
 | swap x y l=>
  intro hn a
  have hne:y≠x:=fun e=>(List.nodup_cons.1 hn).1 (e ▸ List.mem_cons_self)
  simp only[sumL]
  rw[wV]
  exact cw S fun v _=>cw S fun u _=>by rw[BG hne]
 | trans h1 h2 ih1 ih2=>exact fun hn a=>(ih1 hn a).trans (ih2 (h1.nodup_iff.1 hn) a)
def Ind (L:List Int) (g:Asg→E):Prop:=∀ x,x∈L→∀ a v,g (up a x v)=g a
theorem n4 {f g:Asg→E}:∀ {L:List Int} (_:Ind L g) (a:Asg),sumL S dim L (fun a=>S.mul (g a) (f a)) a=S.mul (g a) (sumL S dim L f a)
 | [],_,_=>rfl
 | x :: L,h,a=>by
  rw[sumL,sumL,wU]
  refine cw S fun v _=> ?_
  rw[n4 (fun y hy=>h y (List.mem_cons_of_mem _ hy)),h x List.mem_cons_self]
def prL:List (Asg→E)→Asg→E
 | [],_=>S.one
 | t :: l,a=>S.mul (t a) (prL l a)
theorem m5 {l m:List (Asg→E)} (h:l.Perm m) (a:Asg):prL S l a=prL S m a:=by
 induction h with
 | nil=>rfl
 | cons x h ih=>rw[prL,prL,ih]
 | swap x y l=>rw[prL,prL,prL,prL, ← S.mul_assoc, ← S.mul_assoc,S.mul_comm (y a)]
 | trans _ _ h1 h2=>exact h1.trans h2
theorem Ce {l:List (Asg→E)} {L:List Int} (h:∀ t∈l,Ind L t):Ind L (prL S l):=by
 induction l with
 | nil=>exact fun _ _ _ _=>rfl
 | cons t l ih=>
  intro x hx a v
  rw[prL,prL,h t List.mem_cons_self x hx,ih (fun t ht=>h t (List.mem_cons_of_mem _ ht)) x hx]
def valL (ts:List (Asg→E)) (R:List Int):Asg→E:=sumL S dim R (prL S ts)
theorem xO {ts rest:List (Asg→E)} {t u p:Asg→E} {R drop R':List Int} (h1:ts.Perm (t :: u :: rest)) (h2:R.Perm (R'++drop)) (hn:R.Nodup) (hi:∀ s∈rest,Ind drop s)
  (a:Asg) (hp:∀ a',Reach dim R' a a'→p a'=sumL S dim drop (fun a=>S.mul (t a) (u a)) a'):valL S dim ts R a=valL S dim (p :: rest) R' a:=by
 unfold valL
 rw[fW S dim h2 hn,jA]
 refine bA S dim fun a' ha=> ?_
 rw[prL,hp a' ha,S.mul_comm, ← n4 S dim (Ce S hi)]
 refine bA S dim fun b _=> ?_
 rw[m5 S h1,prL,prL, ← S.mul_assoc,S.mul_comm]
end Go.Proofs.YtneocijmbnhblaaGreat.Sem
namespace Go.Proofs.YtneocijmbnhblaaGreat.Sem
open Plain
variable {E : Type} (S : SR E) (dim : Int → Nat)
theorem wT (f:Nat→E) (a:Nat):∀ b,sm S f (a+b)=S.add (sm S f a) (sm S (fun i=>f (a+i)) b)
 | 0=>(S.add_zero _).symm
 | b+1=>by rw[← Nat.add_assoc,sm,wT f a b,sm,S.add_assoc]
theorem uj (f:Nat→E) (P:Nat):∀ d,sm S f (d*P)=sm S (fun v=>sm S (fun m=>f (v*P+m)) P) d
 | 0=>by rw[Nat.zero_mul];rfl
 | d+1=>by rw[Nat.succ_mul,wT,uj f P d];rfl
def pN:List Int→Nat
 | []=>1
 | x :: L=>dim x*pN L
theorem w3 {L:List Int} (h:∀ x∈L,1≤dim x):1≤pN dim L:=by
 induction L with
 | nil=>exact Nat.le_refl _
 | cons x L ih=>
  have h1:=ih fun y hy=>h y (List.mem_cons_of_mem _ hy)
  have h2:=h x List.mem_cons_self
  rw[pN]
  exact Nat.mul_le_mul h2 h1
def asgN:Asg→List Int→Nat→Asg
 | a,[],_=>a
 | a,x :: L,n=>asgN (up a x (n / pN dim L % dim x)) L n
theorem r7:∀ (L:List Int) (_:∀ x∈L,1≤dim x) (a:Asg) (v m:Nat),asgN dim a L (v*pN dim L+m)=asgN dim a L m
 | [],_,_,_,_=>rfl
 | x :: L,h,a,v,m=>by
  have h1:=w3 dim fun y hy=>h y (List.mem_cons_of_mem _ hy)
  have e:v*pN dim (x :: L)+m=(v*dim x)*pN dim L+m:=by rw[pN,Nat.mul_assoc]
  rw[asgN,asgN,e,r7 L (fun y hy=>h y (List.mem_cons_of_mem _ hy))]
  have e2:((v*dim x)*pN dim L+m) / pN dim L % dim x=m / pN dim L % dim x:=by
   rw[Nat.mul_comm (v*dim x),Nat.mul_add_div (by omega),Nat.mul_comm v,Nat.mul_add_mod]
  rw[e2]
theorem mZ:∀ (L:List Int) (a:Asg) (n:Nat) (y:Int),y∉L→asgN dim a L n y=a y
 | [],_,_,_,_=>rfl
 | x :: L,a,n,y,h=>by
  rw[asgN,mZ L _ n y fun e=>h (List.mem_cons_of_mem _ e),wO fun e=>h (by rw[e];exact List.mem_cons_self)]
theorem hH:∀ (L:List Int) (_:∀ x∈L,1≤dim x) (a:Asg) (n:Nat) (y:Int),y∈L→asgN dim a L n y<dim y
 | [],_,_,_,y,hy=>by cases hy
 | x :: L,h,a,n,y,hy=>by
  rw[asgN]
  by_cases hL:y∈L
  ·exact hH L (fun z hz=>h z (List.mem_cons_of_mem _ hz)) _ n y hL
  ·rcases List.mem_cons.1 hy with e | e
   ·subst e
    rw[mZ dim L _ n y hL,iO]
    exact Nat.mod_lt _ (h y List.mem_cons_self)
   ·exact absurd e hL
theorem vP (f:Asg→E):∀ (L:List Int) (_:∀ x∈L,1≤dim x) (a:Asg),sm S (fun n=>f (asgN dim a L n)) (pN dim L)=sumL S dim L f a
 | [],_,a=>by
  show S.add S.zero (f a)=f a
  exact S.zero_add _
 | x :: L,h,a=>by
  have hL:∀ y∈L,1≤dim y:=fun y hy=>h y (List.mem_cons_of_mem _ hy)
  have h1:=w3 dim hL
  rw[pN,uj,sumL]
  refine cw S fun v hv=> ?_
  rw[← vP f L hL]
  refine cw S fun m hm=> ?_
  rw[asgN,r7 dim L hL]
  have e:(v*pN dim L+m) / pN dim L % dim x=v:=by
   rw[Nat.mul_comm,Nat.mul_add_div (by omega),Nat.div_eq_of_lt hm,Nat.add_zero,Nat.mod_eq_of_lt hv]
  rw[e]
def offR:List Int→Asg→Nat
 | [],_=>0
 | x :: L,a=>a x*pN dim L+offR L a
theorem ei:∀ {L:List Int} {a:Asg},(∀ x∈L,a x<dim x)→offR dim L a<pN dim L
 | [],_,_=>Nat.zero_lt_one
 | x :: L,a,h=>by
  have h1:=ei (L:=L) fun y hy=>h y (List.mem_cons_of_mem _ hy)
  have h2:=h x List.mem_cons_self
  rw[offR,pN]
  have h3:(a x+1)*pN dim L≤dim x*pN dim L:=Nat.mul_le_mul_right _ h2
  rw[Nat.succ_mul]at h3
  omega
theorem m9:∀ {L:List Int} {a b:Asg},(∀ x∈L,a x<dim x)→(∀ x∈L,b x<dim x)→offR dim L a=offR dim L b→∀ x∈L,a x=b x
 | [],_,_,_,_,_,_,hx=>by cases hx
 | x :: L,a,b,ha,hb,e,y,hy=>by
  have h1:=ei dim (L:=L) fun z hz=>ha z (List.mem_cons_of_mem _ hz)
  have h2:=ei dim (L:=L) fun z hz=>hb z (List.mem_cons_of_mem _ hz)
  rw[offR,offR]at e
  have e1:a x=b x:=by
   have d1:(a x*pN dim L+offR dim L a) / pN dim L=a x:=by rw[Nat.mul_comm,Nat.mul_add_div (by omega),Nat.div_eq_of_lt h1,Nat.add_zero]
   have d2:(b x*pN dim L+offR dim L b) / pN dim L=b x:=by rw[Nat.mul_comm,Nat.mul_add_div (by omega),Nat.div_eq_of_lt h2,Nat.add_zero]
   rw[← d1, ← d2,e]
  rw[e1]at e
  rcases List.mem_cons.1 hy with h | h
  ·rw[h];exact e1
  ·exact m9 (fun z hz=>ha z (List.mem_cons_of_mem _ hz)) (fun z hz=>hb z (List.mem_cons_of_mem _ hz)) (by omega) y h
theorem gk:∀ {L:List Int} {a b:Asg},(∀ x∈L,a x=b x)→offR dim L a=offR dim L b
 | [],_,_,_=>rfl
 | x :: L,a,b,h=>by rw[offR,offR,h x List.mem_cons_self,gk fun y hy=>h y (List.mem_cons_of_mem _ hy)]
theorem q3:∀ (L:List Int),L.Nodup→(∀ x∈L,1≤dim x)→∀ (a:Asg) (n:Nat),n<pN dim L→offR dim L (asgN dim a L n)=n
 | [],_,_,_,n,h=>by
  have:pN dim []=1:=rfl
  rw[offR];omega
 | x :: L,hn,h,a,n,hlt=>by
  have hL:∀ y∈L,1≤dim y:=fun y hy=>h y (List.mem_cons_of_mem _ hy)
  have h1:=w3 dim hL
  obtain⟨hx,hn2⟩:=List.nodup_cons.1 hn
  rw[offR,asgN,mZ dim L _ n x hx,iO]
  have hq:n / pN dim L<dim x:=by
   rw[pN]at hlt
   exact Nat.div_lt_of_lt_mul (by rw[Nat.mul_comm];exact hlt)
  rw[Nat.mod_eq_of_lt hq]
  have hm:=Nat.mod_lt n (show 0<pN dim L by omega)
  have hd:=Nat.div_add_mod n (pN dim L)
  have e:asgN dim (up a x (n / pN dim L)) L n=asgN dim (up a x (n / pN dim L)) L (n % pN dim L):=by
   have:=r7 dim L hL (up a x (n / pN dim L)) (n / pN dim L) (n % pN dim L)
   rw[Nat.mul_comm,hd]at this
   exact this
  rw[e,q3 L hn2 hL _ _ hm,Nat.mul_comm]
  exact hd
def agr (K:List Int) (a b:Asg):Bool:=K.all fun x=>a x==b x
theorem i0 {K:List Int} {a b:Asg}:agr K a b=true↔∀ x∈K,a x=b x:=by simp [agr]
theorem rH:∀ (L:List Int) (a:Asg),sumL S dim L (fun _=>S.zero) a=S.zero
 | [],_=>rfl
 | x :: L,a=>by rw[sumL,cw S fun v _=>rH L _,ph]
theorem pF {f:Asg→E} {b:Asg}:∀ {K:List Int},K.Nodup→(∀ x∈K,b x<dim x)→(∀ a a':Asg,(∀ y,a y=a' y)→f a=f a')→∀ a,(∀ y,y∉K→a y=b y)→
  sumL S dim K (fun a=>if agr K a b=true then f a else S.zero) a=f b
 | [],_,_,hf,a,h=>by
  show (if agr [] a b=true then f a else S.zero)=f b
  rw[if_pos (i0.2 fun x hx=>by cases hx)]
  exact hf _ _ fun y=>h y fun e=>by cases e
 | x :: K,hn,hb,hf,a,h=>by
  obtain⟨hx,hn2⟩:=List.nodup_cons.1 hn
  rw[sumL,zg S (hb x List.mem_cons_self) fun v hv hne=> ?_]
  ·rw[← pF (f:=f) (b:=b) hn2 (fun y hy=>hb y (List.mem_cons_of_mem _ hy)) hf (up a x (b x)) fun y hy=> ?_]
   ·refine bA S dim fun a' ha=> ?_
    have e:a' x=b x:=by rw[ha.1 x hx,iO]
    have:agr (x :: K) a' b=agr K a' b:=by simp [agr,e]
    rw[this]
   ·by_cases e:y=x
    ·rw[e,iO]
    ·rw[wO e];exact h y fun h'=>(List.mem_cons.1 h').elim e hy
  ·refine(bA S dim (g:=fun _=>S.zero) fun a' ha=> ?_).trans (rH S dim K (up a x v))
   refine if_neg fun h'=> ?_
   have h1:=i0.1 h' x List.mem_cons_self
   rw[ha.1 x hx,iO]at h1
   exact hne h1
end Go.Proofs.YtneocijmbnhblaaGreat.Sem
