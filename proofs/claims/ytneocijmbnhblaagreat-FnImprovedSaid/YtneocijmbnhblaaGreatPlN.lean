/-
 Plain lists: the dimensions of a network's labels; valid networks. No condition.
-/
import Derived.Test.YtneocijmbnhblaaGreatNetA
import Derived.Test.YtneocijmbnhblaaGreatRng
set_option linter.unusedSimpArgs false
set_option linter.unusedVariables false
namespace Go.Proofs.YtneocijmbnhblaaGreat
open Go.RowKit Go.Lift Plain
def dimN:List Ten→Int→Int
 | [],_=>0
 | t :: l,x=>if x∈t.labels then au t x else dimN l x
theorem mT:∀ (a b:List Ten) (x:Int),(∀ t∈a,x∈t.labels→au t x≠0)→dimN (a++b) x=if dimN a x=0 then dimN b x else dimN a x
 | [],b,x,_=>by simp [dimN]
 | t :: l,b,x,h=>by
  rw[List.cons_append,dimN,dimN]
  by_cases hm:x∈t.labels
  ·rw[if_pos hm,if_pos hm,if_neg (h t (by simp) hm)]
  ·rw[if_neg hm,if_neg hm]
   exact mT l b x fun t' ht'=>h t' (by simp [ht'])
def f8 (r:Rg) (ts:List Ten):Prop:=∀ t∈ts,aD r t.labels t.dims t.data=true
def dg (ts:List Ten):Prop:=∀ t∈ts,axOk t.labels t.dims
theorem f8.ax {r:Rg} {ts:List Ten} (h:f8 r ts):dg ts:=fun t ht=>(dE (h t ht)).2.1
theorem dg.take {ts:List Ten} (h:dg ts) (k:Nat):dg (ts.take k):=fun t ht=>h t (List.mem_of_mem_take ht)
theorem dg.ne {ts:List Ten} (h:dg ts) {x:Int}:∀ t∈ts,x∈t.labels→au t x≠0:=fun t ht hm=>by have:=cR (h t ht) hm;omega
theorem i9:∀ {ts:List Ten},dg ts→∀ x,dimN ts x=0∨(1≤dimN ts x∧dimN ts x≤8)
 | [],_,x=>.inl rfl
 | t :: l,h,x=>by
  rw[dimN]
  split
  ·rename_i hm
   exact .inr (cR (h t (by simp)) hm)
  ·exact i9 (fun t' ht'=>h t' (by simp [ht'])) x
theorem CJ {ts:List Ten} (h:dg ts) {x:Int} (hx:¬ (0≤x∧x≤99)):dimN ts x=0:=by
 induction ts with
 | nil=>rfl
 | cons t l ih=>
  rw[dimN,if_neg (fun hm=>hx (by
   obtain⟨k,hk,rfl⟩:=List.getElem_of_mem hm
   have:=(h t (by simp)).2.2 k hk
   unfold axAt at this
   rw[ab hk]at this
   omega))]
  exact ih fun t' ht'=>h t' (by simp [ht'])
theorem tK {ts:List Ten} (h:dg ts) {k:Nat} (hk:k<ts.length) (x:Int):dimN (ts.take (k+1)) x=if dimN (ts.take k) x=0 then (if x∈ts[k].labels then au ts[k] x else 0) else dimN (ts.take k) x:=by
 rw[bi hk,mT _ _ _ (h.take k).ne]
 simp only[dimN]
def tN (ts:List Ten) (k:Nat):Prop:=∀ x,(hk:k<ts.length)→x∈ts[k].labels→dimN (ts.take k) x=0∨dimN (ts.take k) x=au ts[k] x
def tP (ts:List Ten):Prop:=∀ k,k<ts.length→tN ts k
open Classical in
noncomputable def bC (N:Net):Bool:=af N.rg&&decide (N.ts.length≤12)&&decide (f8 N.rg N.ts)&&decide (tP N.ts)&&decide (aX N.os (N.os.map (dimN N.ts))≠ -1)
def repI (n:Nat) (x:Int):List Int:=List.replicate n x
theorem iz (n:Nat) (x:Int):(repI n x).length=n:=by simp [repI]
theorem Bp (n:Nat) (x:Int):reps n (.d (.int x))=iv (repI n x):=by simp [reps,repI,iv]
def atT (D:List Int) (x:Int):Int:=D.getD x.toNat 0
theorem EF (n:Nat) (x:Int):atT (repI n 0) x=0:=by
 unfold atT repI
 by_cases h:x.toNat<n
 ·rw[ab (by simpa using h)];simp
 ·rw[zq,List.getElem?_eq_none (by simp;omega)];rfl
theorem EE {D:List Int} {x y d:Int} (hl:D.length=100) (hx:0≤x∧x≤99) (hy:0≤y∧y≤99):atT (D.set x.toNat d) y=if x=y then d else atT D y:=by
 unfold atT
 rw[zq,List.getElem?_set]
 by_cases e:x=y
 ·subst e;rw[if_pos rfl,if_pos (by omega),if_pos rfl];rfl
 ·rw[if_neg (by omega),if_neg e];rfl
def ec:List (Int × Int)→List Int→List Int × Bool
 | [],D=>(D,true)
 | (x,d) :: r,D=>if atT D x≠0∧atT D x≠d then (D,false) else ec r (D.set x.toNat d)
theorem gR:∀ (a b:List (Int × Int)) (D:List Int),ec (a++b) D=if (ec a D).2=true then ec b (ec a D).1 else ec a D
 | [],b,D=>by simp [ec]
 | (x,d) :: r,b,D=>by
  rw[List.cons_append,ec,ec]
  split
  ·simp
  ·exact gR r b _
theorem lM:∀ (a:List (Int × Int)) (D:List Int),(ec a D).1.length=D.length
 | [],D=>rfl
 | (x,d) :: r,D=>by
  rw[ec]
  split
  ·rfl
  ·rw[lM r,List.length_set]
def il (t:Ten):List (Int × Int):=t.labels.zip t.dims
def fh (ts:List Ten):List (Int × Int):=ts.flatMap il
def aK (ts:List Ten):List Int × Bool:=ec (fh ts) (repI 100 0)
theorem dV (ts:List Ten):(aK ts).1.length=100:=by rw[aK,lM,iz]
def dS (ts:List Ten) (k q:Nat):List (Int × Int):=fh (ts.take k)++(il (ts.getD k ⟨[],[],[]⟩)).take q
def aE (ts:List Ten) (k q:Nat):List Int × Bool:=ec (dS ts k q) (repI 100 0)
theorem ro (ts:List Ten) (k q:Nat):(aE ts k q).1.length=100:=by rw[aE,lM,iz]
theorem lh {t:Ten} (h:axOk t.labels t.dims):(il t).length=t.labels.length:=by simp [il,h.len]
theorem kw (ts:List Ten):aE ts 0 0=(repI 100 0,true):=by simp [aE,dS,fh,ec]
theorem le {ts:List Ten} (h:dg ts) {k:Nat} (hk:k<ts.length):aE ts k ts[k].labels.length=aE ts (k+1) 0:=by
 have e:ts.getD k ⟨[],[],[]⟩=ts[k]:=by simp [hk]
 have hl:=lh (h ts[k] (List.getElem_mem hk))
 unfold aE dS
 have e2:fh (ts.take (k+1))=fh (ts.take k)++il ts[k]:=by
  rw[bi hk]
  unfold fh
  rw[List.flatMap_append]
  simp only[List.flatMap_cons,List.flatMap_nil,List.append_nil]
 rw[e,zt (l:=il ts[k]) (by omega),e2,List.take_zero,List.append_nil]
theorem oP {ts:List Ten} (h:dg ts) {k q:Nat} (hk:k<ts.length) (hq:q<ts[k].labels.length) (hok:(aE ts k q).2=true):
  aE ts k (q+1)=if atT (aE ts k q).1 ts[k].labels[q]≠0∧atT (aE ts k q).1 ts[k].labels[q]≠au ts[k] ts[k].labels[q] then ((aE ts k q).1,false) else ((aE ts k q).1.set ts[k].labels[q].toNat (au ts[k] ts[k].labels[q]),true):=by
 have e:ts.getD k ⟨[],[],[]⟩=ts[k]:=by simp [hk]
 have hax:=h ts[k] (List.getElem_mem hk)
 have hl:=lh hax
 have hx:(il ts[k])[q]'(by omega)=(ts[k].labels[q],au ts[k] ts[k].labels[q]):=by
  rw[fT hax hq (by have:=hax.len;omega)]
  simp [il]
 have e2:dS ts k (q+1)=dS ts k q++[(ts[k].labels[q],au ts[k] ts[k].labels[q])]:=by
  unfold dS
  rw[e,bi (by omega),hx,List.append_assoc]
 unfold aE at hok ⊢
 rw[e2,gR,if_pos hok,ec]
 simp only[ec]
theorem wH {ts:List Ten} {k q:Nat} (hk:k<ts.length) (hok:(aE ts k q).2=false):aK ts=aE ts k q:=by
 have e:ts.getD k ⟨[],[],[]⟩=ts[k]:=by simp [hk]
 have e2:fh ts=dS ts k q++((il ts[k]).drop q++fh (ts.drop (k+1))):=by
  unfold dS
  rw[e,List.append_assoc, ← List.append_assoc (List.take q _),List.take_append_drop]
  have e3:fh ts=fh (ts.take k)++fh (ts.drop k):=by unfold fh;rw[← List.flatMap_append,List.take_append_drop]
  have e4:ts.drop k=ts[k] :: ts.drop (k+1):=List.drop_eq_getElem_cons hk
  rw[e3,e4]
  unfold fh
  simp only[List.flatMap_cons]
 unfold aK aE at*
 rw[e2,gR,hok]
 simp
theorem rp {ts:List Ten} {k:Nat} (hk:ts.length≤k):aE ts k 0=aK ts:=by
 unfold aE dS aK
 rw[zt hk]
 simp
theorem Aq {ts:List Ten} (h:dg ts) {k q:Nat} (hk:k<ts.length) (hq:q≤ts[k].labels.length):
  (∀ j,j<k→tN ts j)→(∀ x,0≤x∧x≤99→atT (aE ts k 0).1 x=dimN (ts.take k) x)→(aE ts k 0).2=true→
   ((aE ts k q).2=true↔∀ x∈ts[k].labels.take q,dimN (ts.take k) x=0∨dimN (ts.take k) x=au ts[k] x)∧
   ((aE ts k q).2=true→∀ x,0≤x∧x≤99→atT (aE ts k q).1 x=if x∈ts[k].labels.take q then au ts[k] x else dimN (ts.take k) x):=by
 intro hc h0 h1
 have hax:=h ts[k] (List.getElem_mem hk)
 induction q with
 | zero=>exact⟨⟨fun _ x hx=>by simp at hx,fun _=>h1⟩,fun _ x hx=>by rw[h0 x hx];simp⟩
 | succ q ih=>
  obtain⟨ih1,ih2⟩:=ih (by omega)
  have hq':q<ts[k].labels.length:=by omega
  have hlab:0≤ts[k].labels[q]∧ts[k].labels[q]≤99:=by
   have:=hax.2.2 q hq'
   unfold axAt at this
   rw[ab hq']at this
   omega
  have hfr:=hax.fresh hq'
  have htk:∀ x,x∈ts[k].labels.take (q+1)↔x∈ts[k].labels.take q∨x=ts[k].labels[q]:=fun x=>by rw[rK _ _ _ hq',ab hq']
  cases hb:(aE ts k q).2 with
  | false=>
   have e:aE ts k (q+1)=aE ts k q:=by
    have e0:ts.getD k ⟨[],[],[]⟩=ts[k]:=by simp [hk]
    have hl:=lh hax
    unfold aE at hb ⊢
    have e2:dS ts k (q+1)=dS ts k q++[(il ts[k])[q]'(by omega)]:=by
     unfold dS
     rw[e0,bi (by omega),List.append_assoc]
    rw[e2,gR,hb]
    simp
   rw[e,hb]
   refine⟨⟨fun hf=>(by cases hf),fun hf=> ?_⟩,fun hf=>(by cases hf)⟩
   have:=ih1.2 fun x hx=>hf x ((htk x).2 (.inl hx))
   rw[hb]at this
   cases this
  | true=>
   have hD:=ih2 hb
   have hold:=ih1.1 hb
   have hst:=oP h hk hq' hb
   have hat:=hD _ hlab
   rw[if_neg hfr]at hat
   rw[hat]at hst
   have hpos:=cR hax (List.getElem_mem hq')
   by_cases hbad:dimN (ts.take k) ts[k].labels[q]≠0∧dimN (ts.take k) ts[k].labels[q]≠au ts[k] ts[k].labels[q]
   ·rw[if_pos hbad]at hst
    rw[hst]
    refine⟨⟨fun hf=>(by cases hf),fun hf=> ?_⟩,fun hf=>(by cases hf)⟩
    rcases hf _ ((htk _).2 (.inr rfl))with e | e
    ·exact absurd e hbad.1
    ·exact absurd e hbad.2
   ·rw[if_neg hbad]at hst
    rw[hst]
    refine⟨⟨fun _ x hx=> ?_,fun _=>rfl⟩,fun _ x hx=> ?_⟩
    ·rcases(htk x).1 hx with hx | rfl
     ·exact hold x hx
     ·by_cases e:dimN (ts.take k) ts[k].labels[q]=0
      ·exact .inl e
      ·exact .inr (Classical.byContradiction fun e'=>hbad ⟨e,e'⟩)
    ·rw[EE (ro ts k q) hlab hx,hD x hx]
     by_cases e:ts[k].labels[q]=x
     ·subst e;rw[if_pos rfl,if_pos ((htk _).2 (.inr rfl))]
     ·rw[if_neg e]
      by_cases hm:x∈ts[k].labels.take q
      ·rw[if_pos hm,if_pos ((htk x).2 (.inl hm))]
      ·rw[if_neg hm,if_neg (fun hx=>((htk x).1 hx).elim hm fun e'=>e e'.symm)]
theorem tJ {ts:List Ten} (h:dg ts):∀ {k:Nat},k≤ts.length→(((aE ts k 0).2=true↔∀ j,j<k→tN ts j)∧((aE ts k 0).2=true→∀ x,0≤x∧x≤99→atT (aE ts k 0).1 x=dimN (ts.take k) x))
 | 0,_=>by
  rw[kw]
  exact⟨⟨fun _ j hj=>absurd hj (Nat.not_lt_zero j),fun _=>rfl⟩,fun _ x hx=>by rw[EF];simp [dimN]⟩
 | k+1,hk=>by
  obtain⟨ih1,ih2⟩:=tJ h (k:=k) (by omega)
  have hk':k<ts.length:=by omega
  have hax:=h ts[k] (List.getElem_mem hk')
  rw[← le h hk']
  cases hb:(aE ts k 0).2 with
  | false=>
   have hf:(aE ts k ts[k].labels.length).2=false:=by
    unfold aE dS at hb ⊢
    rw[List.take_zero,List.append_nil]at hb
    rw[gR,hb]
    simpa using hb
   rw[hf]
   refine⟨⟨fun e=>(by cases e),fun e=> ?_⟩,fun e=>(by cases e)⟩
   have:=ih1.2 fun j hj=>e j (by omega)
   rw[hb]at this
   cases this
  | true=>
   obtain⟨h1,h2⟩:=Aq h hk' (Nat.le_refl _) (ih1.1 hb) (ih2 hb) hb
   rw[List.take_length]at h1 h2
   refine⟨h1.trans ⟨fun e j hj=> ?_,fun e x hx=>e k (by omega) x hk' hx⟩,fun e x hx=> ?_⟩
   ·by_cases ej:j=k
    ·subst ej;exact fun x _ hx=>e x hx
    ·exact ih1.1 hb j (by omega)
   ·rw[h2 e x hx,tK h hk']
    have hcons:=h1.1 e
    by_cases hm:x∈ts[k].labels
    ·rw[if_pos hm,if_pos hm]
     rcases hcons x hm with e0 | e0
     ·rw[if_pos e0]
     ·rw[e0,if_neg];have:=cR hax hm;omega
    ·rw[if_neg hm,if_neg hm]
     split
     ·rename_i e0;exact e0
     ·rfl
theorem wI {ts:List Ten} (h:dg ts):((aK ts).2=true↔tP ts)∧((aK ts).2=true→∀ x,0≤x∧x≤99→atT (aK ts).1 x=dimN ts x):=by
 have:=tJ h (k:=ts.length) (Nat.le_refl _)
 rw[rp (Nat.le_refl _),List.take_length]at this
 exact this
theorem xL {ts:List Ten} (h:dg ts) {k:Nat} (hk:k<ts.length) {x:Int} (hno:∀ t∈ts.take k,x∉t.labels) (hm:x∈ts[k].labels):dimN ts x=au ts[k] x:=by
 have h0:dimN (ts.take k) x=0:=by
  generalize ts.take k=l at hno
  induction l with
  | nil=>rfl
  | cons t l ih=>rw[dimN,if_neg (hno t (by simp))];exact ih fun t' ht'=>hno t' (by simp [ht'])
 have e4:ts.drop k=ts[k] :: ts.drop (k+1):=List.drop_eq_getElem_cons hk
 have e:dimN (ts.take k++ts.drop k) x=au ts[k] x:=by rw[mT _ _ _ (h.take k).ne,if_pos h0,e4,dimN,if_pos hm]
 rwa [List.take_append_drop]at e
theorem oc:∀ {ts:List Ten} {x:Int},(∀ t∈ts,x∉t.labels)→dimN ts x=0
 | [],_,_=>rfl
 | t :: l,x,h=>by rw[dimN,if_neg (h t (by simp))];exact oc fun t' ht'=>h t' (by simp [ht'])
theorem an {N:Net}:bC N=true↔af N.rg=true∧N.ts.length≤12∧f8 N.rg N.ts∧tP N.ts∧aX N.os (N.os.map (dimN N.ts))≠ -1:=by
 simp only[bC,Bool.and_eq_true,decide_eq_true_eq]
 exact⟨fun⟨⟨⟨⟨a,b⟩,c⟩,d⟩,e⟩=>⟨a,b,c,d,e⟩,fun⟨a,b,c,d,e⟩=>⟨⟨⟨⟨a,b⟩,c⟩,d⟩,e⟩⟩
theorem dw {N:Net} (h:¬ (af N.rg=true∧N.ts.length≤12∧f8 N.rg N.ts∧tP N.ts∧aX N.os (N.os.map (dimN N.ts))≠ -1)):bC N=false:=by
 cases e:bC N
 ·rfl
 ·exact absurd (an.1 e) h
theorem wW {N:Net} (k:Nat) (hk:k<N.os.length) (h:¬ (0≤N.os[k]∧N.os[k]≤99∧dimN N.ts N.os[k]≠0)) (hax:dg N.ts):aX N.os (N.os.map (dimN N.ts))= -1:=by
 refine vc k hk fun e=>h ?_
 unfold axAt at e
 rw[ab hk,ab (by simpa using hk)]at e
 simp only[List.getElem_map]at e
 exact⟨e.1,e.2.1,by omega⟩
theorem ct {N:Net} (h:bC N=true):dg N.ts:=(an.1 h).2.2.1.ax
end Go.Proofs.YtneocijmbnhblaaGreat
