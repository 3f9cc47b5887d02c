/-
 Networks over the labels 0 to 5: a tensor replaced, its environment, and sums of tensors. No condition.
-/
import Derived.Test.YtjfmckhbmdjnpaaGreatSemH
import Derived.Test.YtjfmckhbmdjnpaaGreatGenG
set_option linter.unusedSimpArgs false
set_option linter.unusedVariables false
namespace Go.Proofs.YtjfmckhbmdjnpaaGreat.Sem
open Plain
section
variable {E : Type} (S : SR E) {dim dim' : Int → Nat}
theorem u7:∀ {L:List Int},(∀ x∈L,dim x=dim' x)→pN dim L=pN dim' L
 | [],_=>rfl
 | x :: L,h=>by rw[pN,pN,h x List.mem_cons_self,u7 fun y hy=>h y (List.mem_cons_of_mem _ hy)]
theorem yF:∀ {L:List Int} {a:Asg},(∀ x∈L,dim x=dim' x)→offR dim L a=offR dim' L a
 | [],_,_=>rfl
 | x :: L,a,h=>by rw[offR,offR,u7 fun y hy=>h y (List.mem_cons_of_mem _ hy),yF fun y hy=>h y (List.mem_cons_of_mem _ hy)]
theorem y9 {f:Asg→E}:∀ {L:List Int} {a:Asg},(∀ x∈L,dim x=dim' x)→sumL S dim L f a=sumL S dim' L f a
 | [],_,_=>rfl
 | x :: L,a,h=>by
  rw[sumL,sumL,h x List.mem_cons_self]
  exact cw S fun v _=>y9 fun y hy=>h y (List.mem_cons_of_mem _ hy)
end
def d6:Int→Nat:=fun x=>(dimL x).toNat
theorem Fj (x:Int):(d6 x:Int)=dimL x:=by have:=je (x:=x);unfold d6;omega
theorem Jm (x:Int):1≤d6 x:=by have:=je (x:=x);unfold d6;omega
section
variable {r : Rg} {wd : Nat} (hr : ae r = true) (hw : ah r = wd) {dim dim' : Int → Nat}
theorem Bx {t:Ten} (h:∀ x∈t.labels,dim x=dim' x):elT hr hw dim t=elT hr hw dim' t:=by
 funext a
 unfold elT
 rw[yF h]
theorem TV.reDim {t:Ten} (h:TV r wd dim t) (e:∀ x∈t.labels,dim x=dim' x):TV r wd dim' t:=
 ⟨h.nd,h.dm.trans (List.map_congr_left fun x hx=>by rw[e x hx]),fun x hx=>by rw[← e x hx];exact h.dp x hx,by rw[h.len,u7 e],h.fit⟩
theorem zZ (hw:ah r=wd) {t:Ten} (h:Nat6 t) (hok:aD r t.labels t.dims t.data=true):TV r wd d6 t:=by
 have hdm:t.dims=bD d6 t.labels:=h.dims.trans (List.map_congr_left fun x _=>(Fj x).symm)
 have hf:=(cF hok).2.2.2.2.2
 refine⟨h.nd,hdm,fun x _=>Jm x, ?_,oJ hok⟩
 rw[hdm,eH,hw]at hf
 exact_mod_cast hf
end
section
variable {N : Net} {wd : Nat}
theorem Bz (h:Gen6 N) {x:Int} (hx:x∈aq N):dimF N x=d6 x:=by
 have h1:=(cf h.ok).1 hx
 have h2:=lL h.ok x
 have h3:=Fj x
 rcases AI h.six x with e | e<;>omega
theorem rj (h:bn N=true) {x:Int}:x∈aq N↔∃ t∈N.ts,x∈t.labels:=
 ⟨fun hx=>qj ((cf h).1 hx),fun⟨t,ht,hx⟩=>dA h ht hx⟩
theorem Ah (h:bn N=true) {x:Int}:x∈aX N↔(∃ t∈N.ts,x∈t.labels)∧x∉N.os:=by
 rw[aX,List.mem_filter,rj h,Bool.not_eq_true',aT]
theorem nv6 (h:Gen6 N) (hr:ae N.rg=true) (hw:ah N.rg=wd):TV N.rg wd d6 (nvR N wd)∧
  ∀ a:Asg,(∀ x∈N.os,a x<d6 x)→elT hr hw d6 (nvR N wd) a=valL (aB hr hw) d6 (N.ts.map (elT hr hw d6)) (aX N) a:=by
 obtain⟨h1,h2⟩:=JY h.ok hw
 have ho:∀ x∈N.os,dimF N x=d6 x:=fun x hx=>Bz h (sf h.ok x hx)
 refine⟨h1.reDim ho,fun a ha=> ?_⟩
 rw[← Bx hr hw (dim:=dimF N) ho,h2 a fun x hx=>by rw[ho x hx];exact ha x hx]
 have e1:N.ts.map (elT hr hw (dimF N))=N.ts.map (elT hr hw d6):=List.map_congr_left fun t ht=>Bx hr hw fun x hx=>Bz h (dA h.ok ht hx)
 unfold valL
 rw[e1]
 exact y9 _ fun x hx=>Bz h (List.mem_filter.1 hx).1
end
end Go.Proofs.YtjfmckhbmdjnpaaGreat.Sem
namespace Go.Proofs.YtjfmckhbmdjnpaaGreat.Sem
open Plain
section
variable {N : Net} {wd : Nat}
end
end Go.Proofs.YtjfmckhbmdjnpaaGreat.Sem
namespace Go.Proofs.YtjfmckhbmdjnpaaGreat.Sem
open Plain
section
variable {r : Rg} {wd : Nat}
def L6 (L:List Int):Prop:=∀ x∈L,0≤x∧x<6
theorem Fh (L:List Int):bD d6 L=bt L:=List.map_congr_left fun x _=>Fj x
theorem Kp {L:List Int} (hn:L.Nodup) (h:L6 L):axOk L (bD d6 L):=by
 have hl:=len6 hn h
 refine tu (by omega) (by simp [bD]) hn (fun l hl=>by have:=h l hl;omega) fun d hd=> ?_
 rw[Fh]at hd
 obtain⟨y,_,rfl⟩:=List.mem_map.1 hd
 have:=je (x:=y)
 omega
theorem rb {L:List Int} (hn:L.Nodup) (h:L6 L):1≤aa (bD d6 L)∧aa (bD d6 L)≤729:=by
 rw[Fh]
 exact⟨(kA L).1,Bc (len6 hn h)⟩
theorem Dt {L:List Int} (hn:L.Nodup) (h:L6 L):aU L (bD d6 L)=aa (bD d6 L):=by
 have h1:=Kp hn h
 have h2:=rb hn h
 unfold aU
 rw[if_pos ⟨h1,by omega⟩]
theorem AU {t:Ten} (hr:ae r=true) (hw:ah r=wd) (h:TV r wd d6 t) (h6:L6 t.labels):aD r t.labels t.dims t.data=true:=by
 have h1:=Dt h.nd h6
 have h2:=rb h.nd h6
 simp only[aD,hr,Bool.true_and,Bool.and_eq_true,decide_eq_true_eq,m4]
 refine⟨⟨by rw[h.dm,h1];omega, ?_⟩,h.fit⟩
 rw[h.dm,h1,h.len,eH,hw]
 push_cast
 rfl
theorem tF {t:Ten} (hr:ae r=true) (hw:ah r=wd) (h:TV r wd d6 t) (h6:L6 t.labels):TSz 1048576 t:=by
 have hl:=len6 h.nd h6
 have hp:=rb h.nd h6
 have hwd:=wd6 hr hw
 have htp:=dE hr
 rw[eH]at hp
 have hlen:t.data.length≤729*6:=by
  rw[h.len]
  exact Nat.mul_le_mul (by omega) hwd.2
 refine⟨⟨by omega,fun x hx=> ?_⟩,⟨?_,fun x hx=> ?_⟩,⟨by omega,fun x hx=> ?_⟩⟩
 ·have:=h6 x hx;unfold I64;omega
 ·rw[h.dm];simp [bD];omega
 ·rw[h.dm,Fh]at hx
  obtain⟨y,_,rfl⟩:=List.mem_map.1 hx
  have:=je (x:=y)
  unfold I64;omega
 ·have:=gV h.fit x hx
  unfold I64;omega
theorem Fs {A B:Ten} (hr:ae r=true) (hw:ah r=wd) (hA:TV r wd d6 A) (hB:TV r wd d6 B) (a6:L6 A.labels) (b6:L6 B.labels) (keep:List Int):conB r A B keep=true∧conT r A B keep=conR r wd A B keep∧L6 (conK A B keep):=by
 have hn:=xP hA hB
 have h6:L6 (conL A B):=fun x hx=>(ba.1 hx).elim (a6 x) (b6 x)
 have hk6:L6 (conK A B keep):=fun x hx=>h6 x (List.mem_filter.1 hx).1
 have hkn:(conK A B keep).Nodup:=hn.filter _
 have h1:=rb hn h6
 have h2:=Dt hkn hk6
 have h3:=rb hkn hk6
 have hj:fV A B=true:=by
  unfold fV
  rw[List.all_eq_true]
  intro x hx
  rw[Bool.not_eq_true',Bool.and_eq_false_iff]
  by_cases ha:x∈A.labels
  ·by_cases hb:x∈B.labels
   ·right
    rw[hA.dimEq ha,hB.dimEq hb]
    simp
   ·left
    rw[Bool.and_eq_false_iff]
    exact .inr (aT.2 hb)
  ·left
   rw[Bool.and_eq_false_iff]
   exact .inl (aT.2 ha)
 have hc:conB r A B keep=true:=by
  simp only[conB,AU hr hw hA a6,AU hr hw hB b6,hj,Bool.true_and,Bool.and_eq_true,decide_eq_true_eq]
  rw[pA hA hB,wT hA hB keep,h2]
  omega
 refine⟨hc, ?_,hk6⟩
 unfold conT
 rw[hc,hw]
 rfl
end
section
variable {N : Net} {wd n : Nat} {F : List Int}
theorem wl (h:Gen6 N):L6 (aq N):=fun x hx=>by
 obtain⟨t,ht,hxt⟩:=(rj h.ok).1 hx
 exact(h.six t ht).bd x hxt
end
end Go.Proofs.YtjfmckhbmdjnpaaGreat.Sem
namespace Go.Proofs.YtjfmckhbmdjnpaaGreat.Sem
open Plain
section
variable {r : Rg} {wd : Nat}
theorem DV {A B:List Int} (hA:A.Nodup) (hB:B.Nodup) (h:∀ x,x∈A↔x∈B):lV A B=true:=by
 have hp:A.Perm B:=(List.perm_ext_iff_of_nodup hA hB).2 h
 exact decide_eq_true ⟨hp.length_eq.symm,fun k hk=>⟨(h _).2 (List.getElem_mem hk),gU hB hk⟩⟩
end
section
variable {N : Net} {wd : Nat}
end
end Go.Proofs.YtjfmckhbmdjnpaaGreat.Sem
namespace Go.Proofs.YtjfmckhbmdjnpaaGreat.Sem
open Plain
section
variable {E : Type} (S : SR E) (dim : Int → Nat)
theorem Gu (l m:List (Asg→E)) (a:Asg):prL S (l++m) a=S.mul (prL S l a) (prL S m a):=by
 induction l with
 | nil=>rw[List.nil_append,prL,S.one_mul]
 | cons t l ih=>rw[List.cons_append,prL,prL,ih,S.mul_assoc]
theorem zS {ts us rest:List (Asg→E)} {p:Asg→E} {R drop R':List Int} (h1:ts.Perm (us++rest)) (h2:R.Perm (R'++drop)) (hn:R.Nodup) (hi:∀ s∈rest,Ind drop s)
  (a:Asg) (hp:∀ a',Reach dim R' a a'→p a'=sumL S dim drop (prL S us) a'):valL S dim ts R a=valL S dim (p :: rest) R' a:=by
 unfold valL
 rw[o8 S dim h2 hn,pU]
 refine bJ S dim fun a' ha=> ?_
 rw[prL,hp a' ha,S.mul_comm, ← vT S dim (Gt S hi)]
 refine bJ S dim fun b _=> ?_
 rw[yB S h1,Gu,S.mul_comm]
end
def occV (V:List Ten) (x:Int):Bool:=V.any fun t=>has t.labels x
theorem qd {V:List Ten} {x:Int}:occV V x=true↔∃ t∈V,x∈t.labels:=by simp [occV,az]
def Rv (N:Net) (V:List Ten):List Int:=(aX N).filter (occV V)
theorem rh {N:Net} {V:List Ten} {x:Int}:x∈Rv N V↔(x∈aq N∧x∉N.os)∧∃ t∈V,x∈t.labels:=by
 unfold Rv aX
 rw[List.mem_filter,List.mem_filter,qd,Bool.not_eq_true',aT]
theorem Rv_nd (N:Net) (V:List Ten):(Rv N V).Nodup:=((fH N).filter _).filter _
structure InvV (N:Net) (wd:Nat) (hr:ae N.rg=true) (hw:ah N.rg=wd) (V:List Ten):Prop where
 tv:∀ t∈V,TV N.rg wd d6 t
 sub:∀ t∈V,∀ x∈t.labels,x∈aq N
 os:∀ x∈N.os,∃ t∈V,x∈t.labels
 val:∀ a:Asg,(∀ x∈N.os,a x<d6 x)→valL (aB hr hw) d6 (V.map (elT hr hw d6)) (Rv N V) a=valL (aB hr hw) d6 (N.ts.map (elT hr hw d6)) (aX N) a
section
variable {N : Net} {wd : Nat} {hr : ae N.rg = true} {hw : ah N.rg = wd}
theorem InvV.zero (h:Gen6 N):InvV N wd hr hw N.ts:=by
 refine⟨fun t ht=>zZ hw (h.six t ht) ((ay.1 h.ok).2.2.1 t ht),fun t ht x hx=>dA h.ok ht hx,fun x hx=>(rj h.ok).1 (sf h.ok x hx),fun a _=> ?_⟩
 have e:Rv N N.ts=aX N:=List.filter_eq_self.2 fun x hx=>qd.2 ((Ah h.ok).1 hx).1
 rw[e]
theorem InvV.perm {V V':List Ten} (h:InvV N wd hr hw V) (hp:V.Perm V'):InvV N wd hr hw V':=by
 refine⟨fun t ht=>h.tv t (hp.mem_iff.2 ht),fun t ht=>h.sub t (hp.mem_iff.2 ht),fun x hx=> ?_,fun a ha=> ?_⟩
 ·obtain⟨t,h1,h2⟩:=h.os x hx
  exact⟨t,hp.mem_iff.1 h1,h2⟩
 ·rw[← h.val a ha]
  have e:Rv N V'=Rv N V:=List.filter_congr fun x _=>by
   rw[Bool.eq_iff_iff,qd,qd]
   exact⟨fun⟨t,h1,h2⟩=>⟨t,hp.mem_iff.2 h1,h2⟩,fun⟨t,h1,h2⟩=>⟨t,hp.mem_iff.1 h1,h2⟩⟩
  rw[e]
  exact bJ _ _ fun a' _=>yB _ (hp.symm.map _) a'
theorem InvV.merge {V us rest:List Ten} {j:Ten} {drop:List Int} (h:InvV N wd hr hw V) (hp:V.Perm (us++rest)) (tj:TV N.rg wd d6 j) (lj:∀ x∈j.labels,∃ t∈us,x∈t.labels)
  (hd:∀ x∈drop,x∉N.os∧∀ t∈rest,x∉t.labels) (hdn:drop.Nodup) (hdm:∀ x,x∈drop↔(∃ t∈us,x∈t.labels)∧x∉j.labels)
  (ej:∀ a:Asg,(∀ x∈j.labels,a x<d6 x)→elT hr hw d6 j a=sumL (aB hr hw) d6 drop (prL (aB hr hw) (us.map (elT hr hw d6))) a):InvV N wd hr hw (j :: rest):=by
 have h':=h.perm hp
 have lus:∀ x,(∃ t∈us,x∈t.labels)→x∈aq N:=fun x ⟨t,h1,h2⟩=>h'.sub t (List.mem_append_left _ h1) x h2
 refine⟨fun t ht=> ?_,fun t ht x hx=> ?_,fun x hx=> ?_,fun a ha=> ?_⟩
 ·rcases List.mem_cons.1 ht with rfl | ht
  ·exact tj
  ·exact h'.tv t (List.mem_append_right _ ht)
 ·rcases List.mem_cons.1 ht with rfl | ht
  ·exact lus x (lj x hx)
  ·exact h'.sub t (List.mem_append_right _ ht) x hx
 ·obtain⟨t,h1,h2⟩:=h'.os x hx
  rcases List.mem_append.1 h1 with h1 | h1
  ·by_cases hj:x∈j.labels
   ·exact⟨j,List.mem_cons_self,hj⟩
   ·exact absurd hx (hd x ((hdm x).2 ⟨⟨t,h1,h2⟩,hj⟩)).1
  ·exact⟨t,List.mem_cons_of_mem _ h1,h2⟩
 ·rw[← h'.val a ha]
  refine(zS (aB hr hw) d6 (us:=us.map (elT hr hw d6)) (rest:=rest.map (elT hr hw d6)) (drop:=drop) ?_ ?_ (Rv_nd _ _) ?_ a ?_).symm
  ·rw[List.map_append]
  ·refine(List.perm_ext_iff_of_nodup (Rv_nd _ _) ?_).2 fun x=> ?_
   ·refine List.nodup_append.2 ⟨Rv_nd _ _,hdn,fun x hx y hy e=> ?_⟩
    subst e
    obtain⟨_,t,ht,hxt⟩:=rh.1 hx
    rcases List.mem_cons.1 ht with rfl | ht
    ·exact((hdm x).1 hy).2 hxt
    ·exact(hd x hy).2 t ht hxt
   ·rw[List.mem_append,rh,rh]
    constructor
    ·rintro⟨hc,t,ht,hxt⟩
     rcases List.mem_append.1 ht with ht | ht
     ·by_cases hj:x∈j.labels
      ·exact .inl ⟨hc,j,List.mem_cons_self,hj⟩
      ·exact .inr ((hdm x).2 ⟨⟨t,ht,hxt⟩,hj⟩)
     ·exact .inl ⟨hc,t,List.mem_cons_of_mem _ ht,hxt⟩
    ·rintro (⟨hc,t,ht,hxt⟩ | hx)
     ·rcases List.mem_cons.1 ht with rfl | ht
      ·obtain⟨u,h1,h2⟩:=lj x hxt
       exact⟨hc,u,List.mem_append_left _ h1,h2⟩
      ·exact⟨hc,t,List.mem_append_right _ ht,hxt⟩
     ·obtain⟨⟨u,h1,h2⟩,_⟩:=(hdm x).1 hx
      exact⟨⟨lus x ⟨u,h1,h2⟩,(hd x hx).1⟩,u,List.mem_append_left _ h1,h2⟩
  ·intro s hs
   obtain⟨t,ht,rfl⟩:=List.mem_map.1 hs
   exact Hd hr hw fun x hx=>(hd x hx).2 t ht
  ·intro a' ha'
   refine ej a' fun x hx=> ?_
   by_cases hxo:x∈N.os
   ·rw[ha'.1 x fun h'=>(rh.1 h').1.2 hxo]
    exact ha x hxo
   ·exact ha'.2 x (rh.2 ⟨⟨lus x (lj x hx),hxo⟩,j,List.mem_cons_self,hx⟩)
theorem InvV.fin (h6:Gen6 N) {T:Ten} (h:InvV N wd hr hw [T]):(∀ x∈N.os,x∈T.labels)∧finT N.rg wd T N.os=nvR N wd:=by
 have tv:=h.tv T List.mem_cons_self
 have hos:∀ x∈N.os,x∈T.labels:=fun x hx=>by
  obtain⟨t,h1,h2⟩:=h.os x hx
  rwa [List.mem_singleton.1 h1]at h2
 refine⟨hos, ?_⟩
 obtain⟨nvt,nve⟩:=nv6 h6 hr hw
 obtain⟨ft,fe⟩:=Jh hr hw tv (yD h6.ok) hos
 refine FZ hr hw ft nvt rfl fun a ha=> ?_
 rw[fe a ha,nve a ha, ← h.val a ha]
 unfold valL
 have hp:(T.labels.filter fun x=> !has N.os x).Perm (Rv N [T]):=(List.perm_ext_iff_of_nodup (tv.nd.filter _) (Rv_nd _ _)).2 fun x=>by
  rw[rh,List.mem_filter,Bool.not_eq_true',aT]
  constructor
  ·exact fun⟨h1,h2⟩=>⟨⟨h.sub T List.mem_cons_self x h1,h2⟩,T,List.mem_cons_self,h1⟩
  ·rintro⟨⟨_,h2⟩,t,ht,h3⟩
   rw[List.mem_singleton.1 ht]at h3
   exact⟨h3,h2⟩
 rw[o8 _ _ hp (tv.nd.filter _)]
 refine bJ _ _ fun b _=> ?_
 show elT hr hw d6 T b=(aB hr hw).mul (elT hr hw d6 T b) (aB hr hw).one
 rw[(aB hr hw).mul_one]
def yY (r:Rg) (wd:Nat) (a t:Ten):Ten:=conR r wd a t (au a.labels t.labels)
def j4 (r:Rg) (wd:Nat) (t:Ten) (l:List Ten):Ten:=l.foldl (yY r wd) t
theorem EI {r:Rg} (hr:ae r=true) (hw:ah r=wd) {A B:Ten} (hA:TV r wd d6 A) (hB:TV r wd d6 B):TV r wd d6 (yY r wd A B)∧(yY r wd A B).labels=au A.labels B.labels∧
  ∀ a:Asg,(∀ x∈au A.labels B.labels,a x<d6 x)→elT hr hw d6 (yY r wd A B) a=(aB hr hw).mul (elT hr hw d6 A a) (elT hr hw d6 B a):=by
 have hK:conK A B (au A.labels B.labels)=au A.labels B.labels:=List.filter_eq_self.2 fun x hx=>az.2 hx
 have hX:conX A B (au A.labels B.labels)=[]:=List.filter_eq_nil_iff.2 fun x hx=>by
  rw[az.2 (show x∈au A.labels B.labels from hx)];decide
 obtain⟨h1,h2⟩:=xO hr hw hA hB (au A.labels B.labels)
 refine⟨h1,hK,fun a ha=> ?_⟩
 have:=h2 a (by rw[hK];exact ha)
 rw[hX]at this
 exact this
theorem uJ {r:Rg} (hr:ae r=true) (hw:ah r=wd):∀ {l:List Ten} {t:Ten},TV r wd d6 t→(∀ u∈l,TV r wd d6 u)→TV r wd d6 (j4 r wd t l)∧(∀ x,x∈(j4 r wd t l).labels↔x∈t.labels∨∃ u∈l,x∈u.labels)∧
  ∀ a:Asg,(∀ x∈(j4 r wd t l).labels,a x<d6 x)→elT hr hw d6 (j4 r wd t l) a=(aB hr hw).mul (elT hr hw d6 t a) (prL (aB hr hw) (l.map (elT hr hw d6)) a)
 | [],t,ht,_=>⟨ht,fun x=>by simp [j4],fun a _=>by
   show elT hr hw d6 t a=(aB hr hw).mul (elT hr hw d6 t a) (aB hr hw).one
   rw[(aB hr hw).mul_one]⟩
 | u :: l,t,ht,hl=>by
  obtain⟨f1,f2,f3⟩:=EI hr hw ht (hl u List.mem_cons_self)
  obtain⟨i1,i2,i3⟩:=uJ hr hw (l:=l) f1 fun v hv=>hl v (List.mem_cons_of_mem _ hv)
  have e:j4 r wd t (u :: l)=j4 r wd (yY r wd t u) l:=rfl
  have hm:∀ x,x∈(j4 r wd t (u :: l)).labels↔x∈t.labels∨∃ v∈u :: l,x∈v.labels:=fun x=>by
   rw[e,i2,f2,ba]
   simp only[List.mem_cons,exists_eq_or_imp,or_assoc]
  refine⟨i1,hm,fun a ha=> ?_⟩
  rw[e,i3 a ha,f3 a fun x hx=>ha x ((i2 x).2 (.inl (by rw[f2];exact hx))),(aB hr hw).mul_assoc]
  rfl
def fc (P:List Int) (n k:Nat):List Nat:=(List.range n).filter fun c=>decide (k<c)&&decide (P.getD c 0=k)
def gT (N:Net) (B:List (List Int)) (k:Nat):List Ten:=N.ts.filter fun t=>decide (bZ B t.labels=k)
def cC (N:Net) (wd:Nat) (B:List (List Int)) (P:List Int) (M:Nat→Ten) (k:Nat):Ten:=j4 N.rg wd (bB N.rg wd) (gT N B k++(fc P B.length k).map M)
def msgK (N:Net) (wd:Nat) (B:List (List Int)) (P:List Int) (M:Nat→Ten) (k:Nat):Ten:=
 if k=0 then cC N wd B P M k else conR N.rg wd (cC N wd B P M k) (bB N.rg wd) (B.getD (P.getD k 0).toNat [])
def msgF (N:Net) (wd:Nat) (B:List (List Int)) (P:List Int):Nat→Nat→Ten
 | 0,_=>⟨[],[],[]⟩
 | d+1,i=>if i=B.length-1-d then msgK N wd B P (msgF N wd B P d) (B.length-1-d) else msgF N wd B P d i
theorem lG {α:Type} {p q s:α→Bool}:∀ {l:List α},(∀ x∈l,p x=(q x||s x))→(∀ x∈l,q x=true→s x=true→False)→(l.filter p).Perm (l.filter q++l.filter s)
 | [],_,_=>List.Perm.refl _
 | x :: l,h,h'=>by
  have ih:=lG (l:=l) (fun y hy=>h y (List.mem_cons_of_mem _ hy)) fun y hy=>h' y (List.mem_cons_of_mem _ hy)
  have hx:=h x List.mem_cons_self
  have hx':=h' x List.mem_cons_self
  cases hq:q x<;>cases hs:s x
  ·rw[List.filter_cons_of_neg (by rw[hx,hq,hs];decide),List.filter_cons_of_neg (by rw[hq];decide),List.filter_cons_of_neg (by rw[hs];decide)];exact ih
  ·rw[List.filter_cons_of_pos (by rw[hx,hq,hs];rfl),List.filter_cons_of_neg (by rw[hq];decide),List.filter_cons_of_pos hs]
   exact(ih.cons x).trans List.perm_middle.symm
  ·rw[List.filter_cons_of_pos (by rw[hx,hq,hs];rfl),List.filter_cons_of_pos hq,List.filter_cons_of_neg (by rw[hs];decide)]
   exact ih.cons x
  ·exact(hx' hq hs).elim
theorem tH {B:List (List Int)} {P:List Int} {x:Int} {i j:Nat} (hi:topB B P x i=true) (hj:topB B P x j=true) (hij:i<j):∀ n,j<n→2≤bo B P x n
 | 0,h=>by omega
 | n+1,h=>by
  by_cases e:j=n
  ·subst e
   rw[gF hj]
   have:=pk hi j hij
   omega
  ·have:=tH hi hj hij n (by omega)
   rw[bo]
   omega
theorem HV {B:List (List Int)} {P:List Int} {x:Int} (hP:∀ i,i<B.length→PrOk P i):∀ k,k<B.length→x∈B.getD k []→∃ j,j≤k∧topB B P x j=true:=by
 intro k
 induction k using Nat.strongRecOn with
 | _ k ih=>
  intro hk hx
  cases ht:topB B P x k with
  | true=>exact⟨k,Nat.le_refl _,ht⟩
  | false=>
   have hp:=(hP k hk).2
   unfold topB at ht
   rw[az.2 hx,Bool.true_and,Bool.or_eq_false_iff]at ht
   have h0:k≠0:=by simpa using ht.1
   have hb:=hp (by omega)
   obtain⟨j,h1,h2⟩:=ih (P.getD k 0).toNat (by omega) (by omega) (az.1 (by simpa using ht.2))
   exact⟨j,by omega,h2⟩
theorem z6 {B:List (List Int)} {l:List Int} {k:Nat} (h:bZ B l=k):k<B.length∧∀ x∈l,x∈B.getD k []:=by
 unfold bZ at h
 cases hf:B.findIdx? (allL l)with
 | none=>rw[hf]at h;simp only at h;omega
 | some i=>
  rw[hf]at h
  simp only at h
  obtain rfl:i=k:=by omega
  rw[List.findIdx?_eq_some_iff_getElem]at hf
  obtain⟨h1,h2,_⟩:=hf
  rw[fr h1]
  exact⟨h1,zd h2⟩
def wj (N:Net) (B:List (List Int)) (P:List Int) (M:Nat→Ten) (K:Nat):List Ten:=
 (N.ts.filter fun t=>decide (bZ B t.labels<K))++((List.range B.length).filter fun c=>decide (K≤c)&&decide (P.getD c 0<K)).map M
structure InvM (N:Net) (wd:Nat) (hr:ae N.rg=true) (hw:ah N.rg=wd) (B:List (List Int)) (P:List Int) (M:Nat→Ten) (K:Nat):Prop where
 inv:InvV N wd hr hw (wj N B P M K)
 tv:∀ c,K≤c→c<B.length→TV N.rg wd d6 (M c)∧(∀ x∈(M c).labels,x∈aq N)
 sub:∀ c,K≤c→c<B.length→0<c→∀ x∈(M c).labels,x∈B.getD (P.getD c 0).toNat []
theorem Bp {B:List (List Int)} {t:Ten} (h:Home B t.labels):0≤bZ B t.labels:=by
 false_or_by_contra
 exact z7 (by omega) h
theorem H2 {B:List (List Int)} {l:List Int}:bZ B l<B.length∨B.length=0:=by
 unfold bZ
 cases hf:B.findIdx? (allL l)with
 | none=>simp only;omega
 | some i=>
  rw[List.findIdx?_eq_some_iff_getElem]at hf
  have:=hf.1
  simp only;omega
theorem InvM.zero (h6:Gen6 N) {B:List (List Int)} {P:List Int} (hd:DecOk N B P) {M:Nat→Ten}:InvM N wd hr hw B P M B.length:=by
 refine⟨?_,fun c h1 h2=>by omega,fun c h1 h2=>by omega⟩
 have hB:=hd.2.1.1.1
 have e1:(N.ts.filter fun t=>decide (bZ B t.labels<(B.length:Nat)))=N.ts:=List.filter_eq_self.2 fun t _=>decide_eq_true (by
  have:=H2 (B:=B) (l:=t.labels)
  omega)
 have e2:((List.range B.length).filter fun c=>decide (B.length≤c)&&decide (P.getD c 0<(B.length:Nat)))=[]:=List.filter_eq_nil_iff.2 fun c hc=>by
  have:=List.mem_range.1 hc
  rw[decide_eq_false (by omega),Bool.false_and]
  exact Bool.false_ne_true
 unfold wj
 rw[e1,e2,List.map_nil,List.append_nil]
 exact InvV.zero h6
theorem yX {B:List (List Int)} {P:List Int} {M:Nat→Ten} {k:Nat} (h6:Gen6 N) (hM:∀ c,k<c→c<B.length→TV N.rg wd d6 (M c)):TV N.rg wd d6 (cC N wd B P M k)∧
  (∀ x,x∈(cC N wd B P M k).labels↔∃ t∈gT N B k++(fc P B.length k).map M,x∈t.labels)∧
  ∀ a:Asg,(∀ x∈(cC N wd B P M k).labels,a x<d6 x)→elT hr hw d6 (cC N wd B P M k) a=prL (aB hr hw) ((gT N B k++(fc P B.length k).map M).map (elT hr hw d6)) a:=by
 have hus:∀ t∈gT N B k++(fc P B.length k).map M,TV N.rg wd d6 t:=fun t ht=>by
  rcases List.mem_append.1 ht with ht | ht
  ·have ht':=(List.mem_filter.1 ht).1
   exact zZ hw (h6.six t ht') ((ay.1 h6.ok).2.2.1 t ht')
  ·obtain⟨c,hc,rfl⟩:=List.mem_map.1 ht
   obtain⟨c1,c2⟩:=List.mem_filter.1 hc
   rw[Bool.and_eq_true,decide_eq_true_eq]at c2
   exact hM c c2.1 (List.mem_range.1 c1)
 obtain⟨j1,j2,j3⟩:=uJ hr hw (iC hr hw) hus
 refine⟨j1,fun x=>(j2 x).trans ⟨fun h=>h.elim (fun h=>by cases h) id,.inr⟩,fun a ha=> ?_⟩
 refine(j3 a ha).trans ?_
 rw[xe,(aB hr hw).one_mul]
theorem InvM.step (h6:Gen6 N) {B:List (List Int)} {P:List Int} (hd:DecOk N B P) {M M':Nat→Ten} {k:Nat} (hk:k<B.length) (h:InvM N wd hr hw B P M (k+1)) (e1:M' k=msgK N wd B P M k) (e2:∀ c,k<c→M' c=M c):InvM N wd hr hw B P M' k:=by
 obtain⟨_,⟨_,hPl,hb⟩,hos,hh,htp⟩:=hd
 have hP:∀ i,i<B.length→PrOk P i:=fun i hi=>(hb i hi).1
 have hos':∀ x∈N.os,x∈B.getD 0 []:=zd hos
 obtain⟨j1,j2,j3⟩:=yX (hr:=hr) (hw:=hw) (B:=B) (P:=P) (M:=M) (k:=k) h6 fun c h1 h2=>(h.tv c h1 h2).1
 have lus:∀ x,(∃ t∈gT N B k++(fc P B.length k).map M,x∈t.labels)→x∈B.getD k []∧x∈aq N:=fun x ⟨t,ht,hx⟩=>by
  rcases List.mem_append.1 ht with ht | ht
  ·obtain⟨h1,h2⟩:=List.mem_filter.1 ht
   exact⟨(z6 (zd h2)).2 x hx,dA h6.ok h1 hx⟩
  ·obtain⟨c,hc,rfl⟩:=List.mem_map.1 ht
   obtain⟨c1,c2⟩:=List.mem_filter.1 hc
   rw[Bool.and_eq_true,decide_eq_true_eq,decide_eq_true_eq]at c2
   have hcl:=List.mem_range.1 c1
   have:=h.sub c c2.1 hcl (by omega) x hx
   rw[c2.2,Int.toNat_natCast]at this
   exact⟨this,(h.tv c c2.1 hcl).2 x hx⟩
 obtain⟨tj,lj,ej⟩:TV N.rg wd d6 (msgK N wd B P M k)∧(∀ x,x∈(msgK N wd B P M k).labels↔x∈(cC N wd B P M k).labels∧(k=0∨x∈B.getD (P.getD k 0).toNat []))∧
   ∀ a:Asg,(∀ x∈(msgK N wd B P M k).labels,a x<d6 x)→elT hr hw d6 (msgK N wd B P M k) a=sumL (aB hr hw) d6 ((cC N wd B P M k).labels.filter fun x=> !(decide (k=0)||has (B.getD (P.getD k 0).toNat []) x)) (prL (aB hr hw) ((gT N B k++(fc P B.length k).map M).map (elT hr hw d6))) a:=by
  by_cases h0:k=0
  ·have e:msgK N wd B P M k=cC N wd B P M k:=if_pos h0
   have e':((cC N wd B P M k).labels.filter fun x=> !(decide (k=0)||has (B.getD (P.getD k 0).toNat []) x))=[]:=List.filter_eq_nil_iff.2 fun x _=>by
    rw[decide_eq_true h0];simp
   rw[e,e']
   exact⟨j1,fun x=>⟨fun hx=>⟨hx,.inl h0⟩,fun hx=>hx.1⟩,j3⟩
  ·have e:msgK N wd B P M k=conR N.rg wd (cC N wd B P M k) (bB N.rg wd) (B.getD (P.getD k 0).toNat []):=if_neg h0
   obtain⟨c1,c2⟩:=xO hr hw j1 (iC hr hw) (B.getD (P.getD k 0).toNat [])
   have hcl:conL (cC N wd B P M k) (bB N.rg wd)=(cC N wd B P M k).labels:=by
    show (cC N wd B P M k).labels++([]:List Int).filter _=_
    simp
   have hK:∀ x,x∈(conR N.rg wd (cC N wd B P M k) (bB N.rg wd) (B.getD (P.getD k 0).toNat [])).labels↔x∈(cC N wd B P M k).labels∧x∈B.getD (P.getD k 0).toNat []:=fun x=>by
    show x∈(conL (cC N wd B P M k) (bB N.rg wd)).filter _↔_
    rw[hcl,List.mem_filter,az]
   rw[e]
   refine⟨c1,fun x=>by rw[hK];exact⟨fun hx=>⟨hx.1,.inr hx.2⟩,fun hx=>⟨hx.1,hx.2.resolve_left h0⟩⟩,fun a ha=> ?_⟩
   refine(c2 a ha).trans ?_
   have hX:conX (cC N wd B P M k) (bB N.rg wd) (B.getD (P.getD k 0).toNat [])=(cC N wd B P M k).labels.filter fun x=> !(decide (k=0)||has (B.getD (P.getD k 0).toNat []) x):=by
    unfold conX
    rw[hcl,decide_eq_false h0]
    simp only[Bool.false_or]
   rw[hX]
   refine bJ _ _ fun b hb'=> ?_
   rw[xe,(aB hr hw).mul_one]
   refine j3 b fun x hx=> ?_
   by_cases hxp:x∈B.getD (P.getD k 0).toNat []
   ·rw[hb'.1 x fun h'=> ?_]
    ·exact ha x ((hK x).2 ⟨hx,hxp⟩)
    ·have:=(List.mem_filter.1 h').2
     rw[az.2 hxp]at this
     simp at this
   ·exact hb'.2 x (List.mem_filter.2 ⟨hx,by rw[aT.2 hxp,decide_eq_false h0];rfl⟩)
 have hdrop:∀ x,x∈(cC N wd B P M k).labels→x∉(msgK N wd B P M k).labels→0<k∧topB B P x k=true∧dimN N.ts x≠0:=fun x hx hxm=>by
  have h1:¬ (k=0∨x∈B.getD (P.getD k 0).toNat []):=fun hc=>hxm ((lj x).2 ⟨hx,hc⟩)
  obtain⟨l1,l2⟩:=lus x ((j2 x).1 hx)
  refine⟨by omega, ?_,(cf h6.ok).1 l2⟩
  unfold topB
  rw[az.2 l1,aT.2 fun hc=>h1 (.inr hc)]
  simp
 have htwo:∀ x,0<k→topB B P x k=true→dimN N.ts x≠0→∀ j,j<k→x∉B.getD j []:=fun x h0 ht hx j hj hxj=>by
  obtain⟨i,hi,hti⟩:=HV hP j (by omega) hxj
  have h1:=tH hti ht (by omega) B.length hk
  have h2:=htp x ((dK (bS h6.ok)).2 hx)
  omega
 have hmem:∀ x,x∈((cC N wd B P M k).labels.filter fun x=> !(decide (k=0)||has (B.getD (P.getD k 0).toNat []) x))↔x∈(cC N wd B P M k).labels∧x∉(msgK N wd B P M k).labels:=fun x=>by
  rw[List.mem_filter,lj]
  refine and_congr_right fun hx=> ?_
  rw[Bool.not_eq_true',Bool.or_eq_false_iff,decide_eq_false_iff_not,aT]
  exact⟨fun h hc=>hc.2.elim h.1 h.2,fun h=>⟨fun hc=>h ⟨hx,.inl hc⟩,fun hc=>h ⟨hx,.inr hc⟩⟩⟩
 have hperm:(wj N B P M (k+1)).Perm ((gT N B k++(fc P B.length k).map M)++((N.ts.filter fun t=>decide (bZ B t.labels<k))++((List.range B.length).filter fun c=>decide (k+1≤c)&&decide (P.getD c 0<k)).map M)):=by
  have p1:(N.ts.filter fun t=>decide (bZ B t.labels<((k+1:Nat):Int))).Perm (gT N B k++N.ts.filter fun t=>decide (bZ B t.labels<k)):=by
   refine lG (fun t _=> ?_) fun t _ h1 h2=> ?_
   ·rw[Bool.eq_iff_iff,Bool.or_eq_true,decide_eq_true_eq,decide_eq_true_eq,decide_eq_true_eq];omega
   ·rw[decide_eq_true_eq]at h1 h2;omega
  have p2:((List.range B.length).filter fun c=>decide (k+1≤c)&&decide (P.getD c 0<((k+1:Nat):Int))).Perm (fc P B.length k++(List.range B.length).filter fun c=>decide (k+1≤c)&&decide (P.getD c 0<k)):=by
   refine lG (fun t _=> ?_) fun t _ h1 h2=> ?_
   ·rw[Bool.eq_iff_iff,Bool.or_eq_true]
    simp only[Bool.and_eq_true,decide_eq_true_eq]
    omega
   ·simp only[Bool.and_eq_true,decide_eq_true_eq]at h1 h2
    omega
  have p3:=p2.map M
  rw[List.map_append]at p3
  refine(p1.append p3).trans ?_
  rw[List.append_assoc,List.append_assoc]
  refine List.Perm.append_left _ ?_
  rw[← List.append_assoc, ← List.append_assoc]
  exact List.Perm.append_right _ List.perm_append_comm
 have hinv:=h.inv.merge hperm (drop:=(cC N wd B P M k).labels.filter fun x=> !(decide (k=0)||has (B.getD (P.getD k 0).toNat []) x)) tj (fun x hx=>(j2 x).1 ((lj x).1 hx).1) (fun x hx=> ?_) (j1.nd.filter _) (fun x=>by rw[hmem,j2]) ej
 ·have e:(wj N B P M' k).Perm (msgK N wd B P M k :: ((N.ts.filter fun t=>decide (bZ B t.labels<k))++((List.range B.length).filter fun c=>decide (k+1≤c)&&decide (P.getD c 0<k)).map M)):=by
   have hPk:P.getD k 0<k:=by
    by_cases h0:k=0
    ·subst h0;rw[(hP 0 hk).1 rfl];decide
    ·exact((hP k hk).2 (by omega)).2
   have q1:((List.range B.length).filter fun c=>decide (k≤c)&&decide (P.getD c 0<k)).Perm (k :: (List.range B.length).filter fun c=>decide (k+1≤c)&&decide (P.getD c 0<k)):=by
    refine(List.perm_ext_iff_of_nodup (List.nodup_range.filter _) (List.nodup_cons.2 ⟨fun hm=> ?_,List.nodup_range.filter _⟩)).2 fun c=> ?_
    ·have:=(List.mem_filter.1 hm).2
     simp at this
     omega
    ·simp only[List.mem_cons,List.mem_filter,List.mem_range,Bool.and_eq_true,decide_eq_true_eq]
     constructor
     ·intro hc
      by_cases e:c=k
      ·exact .inl e
      ·exact .inr ⟨hc.1,by omega,hc.2.2⟩
     ·rintro (rfl | hc)
      ·exact⟨hk,Nat.le_refl _,hPk⟩
      ·exact⟨hc.1,by omega,hc.2.2⟩
   have q2:=q1.map M'
   rw[List.map_cons,e1]at q2
   have q3:((List.range B.length).filter fun c=>decide (k+1≤c)&&decide (P.getD c 0<k)).map M'=((List.range B.length).filter fun c=>decide (k+1≤c)&&decide (P.getD c 0<k)).map M:=List.map_congr_left fun c hc=>by
    have:=(List.mem_filter.1 hc).2
    simp only[Bool.and_eq_true,decide_eq_true_eq]at this
    exact e2 c (by omega)
   rw[q3]at q2
   exact(List.Perm.append_left _ q2).trans List.perm_middle
  refine⟨hinv.perm e.symm,fun c hc hcl=> ?_,fun c hc hcl h0 x hx=> ?_⟩
  ·by_cases ec:c=k
   ·subst ec
    rw[e1]
    exact⟨tj,fun x hx=>(lus x ((j2 x).1 ((lj x).1 hx).1)).2⟩
   ·rw[e2 c (by omega)]
    exact h.tv c (by omega) hcl
  ·by_cases ec:c=k
   ·subst ec
    rw[e1]at hx
    exact((lj x).1 hx).2.resolve_left (by omega)
   ·rw[e2 c (by omega)]at hx
    exact h.sub c (by omega) hcl h0 x hx
 ·obtain⟨g1,g2⟩:=(hmem x).1 hx
  obtain⟨d1,d2,d3⟩:=hdrop x g1 g2
  have hno:=htwo x d1 d2 d3
  refine⟨fun ho=>hno 0 d1 (hos' x ho),fun t ht hxt=> ?_⟩
  rcases List.mem_append.1 ht with ht | ht
  ·obtain⟨f1,f2⟩:=List.mem_filter.1 ht
   have f3:=zd f2
   have f4:=Bp (hh t f1)
   obtain⟨i,hi⟩:=Int.eq_ofNat_of_zero_le f4
   rw[hi]at f3
   exact hno i (by omega) ((z6 hi).2 x hxt)
  ·obtain⟨c,hc,rfl⟩:=List.mem_map.1 ht
   obtain⟨f1,f2⟩:=List.mem_filter.1 hc
   simp only[Bool.and_eq_true,decide_eq_true_eq]at f2
   have f3:=List.mem_range.1 f1
   have f5:=((hP c f3).2 (by omega)).1
   exact hno (P.getD c 0).toNat (by omega) (h.sub c (by omega) f3 (by omega) x hxt)
theorem xk (h6:Gen6 N) {B:List (List Int)} {P:List Int} (hd:DecOk N B P):∀ d,d≤B.length→InvM N wd hr hw B P (msgF N wd B P d) (B.length-d)
 | 0,_=>InvM.zero h6 hd
 | d+1,h=>by
  have ih:=xk h6 hd d (by omega)
  have e:B.length-d=B.length-1-d+1:=by omega
  rw[e]at ih
  rw[show B.length-(d+1)=B.length-1-d by omega]
  exact ih.step h6 hd (by omega) (by rw[msgF,if_pos rfl]) fun c hc=>by rw[msgF,if_neg (by omega)]
theorem D7 (h6:Gen6 N) (hw:ah N.rg=wd) {B:List (List Int)} {P:List Int} (hd:DecOk N B P):TV N.rg wd d6 (msgF N wd B P B.length 0)∧L6 (msgF N wd B P B.length 0).labels∧(∀ x∈N.os,x∈(msgF N wd B P B.length 0).labels)∧finT N.rg wd (msgF N wd B P B.length 0) N.os=nvR N wd:=by
 have hr:=(ay.1 h6.ok).1
 have hI:=xk (wd:=wd) (hr:=hr) (hw:=hw) h6 hd B.length (Nat.le_refl _)
 rw[Nat.sub_self]at hI
 obtain⟨⟨hB,_⟩,_,hb⟩:=hd.2.1
 obtain⟨t1,t2⟩:=hI.tv 0 (Nat.le_refl _) (by omega)
 have e:wj N B P (msgF N wd B P B.length) 0=[msgF N wd B P B.length 0]:=by
  have e1:(N.ts.filter fun t=>decide (bZ B t.labels<((0:Nat):Int)))=[]:=List.filter_eq_nil_iff.2 fun t ht=>by
   have:=Bp (hd.2.2.2.1 t ht)
   rw[decide_eq_false (by omega)];decide
  have e2:((List.range B.length).filter fun c=>decide (0≤c)&&decide (P.getD c 0<((0:Nat):Int)))=[0]:=by
   obtain⟨m,hm⟩:∃ m,B.length=m+1:=⟨B.length-1,by omega⟩
   rw[hm,List.range_succ_eq_map,List.filter_cons_of_pos (by rw[((hb 0 (by omega)).1).1 rfl];decide)]
   congr 1
   refine List.filter_eq_nil_iff.2 fun c hc=> ?_
   obtain⟨i,hi,rfl⟩:=List.mem_map.1 hc
   have:=((hb (i+1) (by have:=List.mem_range.1 hi;omega)).1.2 (by omega)).1
   simp only[Nat.succ_eq_add_one,Bool.and_eq_true,decide_eq_true_eq]
   omega
  unfold wj
  rw[e1,e2]
  rfl
 have hV:=hI.inv
 rw[e]at hV
 obtain⟨f1,f2⟩:=hV.fin h6
 exact⟨t1,fun x hx=>wl h6 x (t2 x hx),f1,f2⟩
end
end Go.Proofs.YtjfmckhbmdjnpaaGreat.Sem
