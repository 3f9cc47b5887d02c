/-
 Plain lists: the dimensions of a network's labels; valid networks. No condition.
-/
import Derived.Test.YtjfmckhbmdjnpaaGreatNetA
import Derived.Test.YtjfmckhbmdjnpaaGreatRngB
set_option linter.unusedSimpArgs false
set_option linter.unusedVariables false
namespace Go.Proofs.YtjfmckhbmdjnpaaGreat
open Go.RowKit Go.Lift Plain
def dimN:List Ten→Int→Int
 | [],_=>0
 | t :: l,x=>if x∈t.labels then ar t x else dimN l x
theorem qJ:∀ (a b:List Ten) (x:Int),(∀ t∈a,x∈t.labels→ar t x≠0)→dimN (a++b) x=if dimN a x=0 then dimN b x else dimN a x
 | [],b,x,_=>by simp [dimN]
 | t :: l,b,x,h=>by
  rw[List.cons_append,dimN,dimN]
  by_cases hm:x∈t.labels
  ·rw[if_pos hm,if_pos hm,if_neg (h t (by simp) hm)]
  ·rw[if_neg hm,if_neg hm]
   exact qJ l b x fun t' ht'=>h t' (by simp [ht'])
def eT (r:Rg) (ts:List Ten):Prop:=∀ t∈ts,aD r t.labels t.dims t.data=true
def cM (ts:List Ten):Prop:=∀ t∈ts,axOk t.labels t.dims
theorem eT.ax {r:Rg} {ts:List Ten} (h:eT r ts):cM ts:=fun t ht=>(cF (h t ht)).2.1
theorem cM.take {ts:List Ten} (h:cM ts) (k:Nat):cM (ts.take k):=fun t ht=>h t (List.mem_of_mem_take ht)
theorem cM.ne {ts:List Ten} (h:cM ts) {x:Int}:∀ t∈ts,x∈t.labels→ar t x≠0:=fun t ht hm=>by have:=cx (h t ht) hm;omega
theorem jc:∀ {ts:List Ten},cM ts→∀ x,dimN ts x=0∨(1≤dimN ts x∧dimN ts x≤8)
 | [],_,x=>.inl rfl
 | t :: l,h,x=>by
  rw[dimN]
  split
  ·rename_i hm
   exact .inr (cx (h t (by simp)) hm)
  ·exact jc (fun t' ht'=>h t' (by simp [ht'])) x
theorem Fi {ts:List Ten} (h:cM ts) {x:Int} (hx:¬ (0≤x∧x≤99)):dimN ts x=0:=by
 induction ts with
 | nil=>rfl
 | cons t l ih=>
  rw[dimN,if_neg (fun hm=>hx (by
   obtain⟨k,hk,rfl⟩:=List.getElem_of_mem hm
   have:=(h t (by simp)).2.2 k hk
   unfold axAt at this
   rw[ab hk]at this
   omega))]
  exact ih fun t' ht'=>h t' (by simp [ht'])
theorem wN {ts:List Ten} (h:cM ts) {k:Nat} (hk:k<ts.length) (x:Int):dimN (ts.take (k+1)) x=if dimN (ts.take k) x=0 then (if x∈ts[k].labels then ar ts[k] x else 0) else dimN (ts.take k) x:=by
 rw[bb hk,qJ _ _ _ (h.take k).ne]
 simp only[dimN]
def wR (ts:List Ten) (k:Nat):Prop:=∀ x,(hk:k<ts.length)→x∈ts[k].labels→dimN (ts.take k) x=0∨dimN (ts.take k) x=ar ts[k] x
def wS (ts:List Ten):Prop:=∀ k,k<ts.length→wR ts k
open Classical in
noncomputable def bn (N:Net):Bool:=ae N.rg&&decide (N.ts.length≤12)&&decide (eT N.rg N.ts)&&decide (wS N.ts)&&decide (aU N.os (N.os.map (dimN N.ts))≠ -1)
def repI (n:Nat) (x:Int):List Int:=List.replicate n x
theorem kx (n:Nat) (x:Int):(repI n x).length=n:=by simp [repI]
theorem E8 (n:Nat) (x:Int):reps n (.d (.int x))=iv (repI n x):=by simp [reps,repI,iv]
def atT (D:List Int) (x:Int):Int:=D.getD x.toNat 0
theorem Hv (n:Nat) (x:Int):atT (repI n 0) x=0:=by
 unfold atT repI
 by_cases h:x.toNat<n
 ·rw[ab (by simpa using h)];simp
 ·rw[zq,List.getElem?_eq_none (by simp;omega)];rfl
theorem Hu {D:List Int} {x y d:Int} (hl:D.length=100) (hx:0≤x∧x≤99) (hy:0≤y∧y≤99):atT (D.set x.toNat d) y=if x=y then d else atT D y:=by
 unfold atT
 rw[zq,List.getElem?_set]
 by_cases e:x=y
 ·subst e;rw[if_pos rfl,if_pos (by omega),if_pos rfl];rfl
 ·rw[if_neg (by omega),if_neg e];rfl
def dH:List (Int × Int)→List Int→List Int × Bool
 | [],D=>(D,true)
 | (x,d) :: r,D=>if atT D x≠0∧atT D x≠d then (D,false) else dH r (D.set x.toNat d)
theorem hC:∀ (a b:List (Int × Int)) (D:List Int),dH (a++b) D=if (dH a D).2=true then dH b (dH a D).1 else dH a D
 | [],b,D=>by simp [dH]
 | (x,d) :: r,b,D=>by
  rw[List.cons_append,dH,dH]
  split
  ·simp
  ·exact hC r b _
theorem pF:∀ (a:List (Int × Int)) (D:List Int),(dH a D).1.length=D.length
 | [],D=>rfl
 | (x,d) :: r,D=>by
  rw[dH]
  split
  ·rfl
  ·rw[pF r,List.length_set]
def kh (t:Ten):List (Int × Int):=t.labels.zip t.dims
def eY (ts:List Ten):List (Int × Int):=ts.flatMap kh
def dh (ts:List Ten):List Int × Bool:=dH (eY ts) (repI 100 0)
theorem rO (ts:List Ten):(dh ts).1.length=100:=by rw[dh,pF,kx]
def dy (ts:List Ten) (k q:Nat):List (Int × Int):=eY (ts.take k)++(kh (ts.getD k ⟨[],[],[]⟩)).take q
def aF (ts:List Ten) (k q:Nat):List Int × Bool:=dH (dy ts k q) (repI 100 0)
theorem uY (ts:List Ten) (k q:Nat):(aF ts k q).1.length=100:=by rw[aF,pF,kx]
theorem pj {t:Ten} (h:axOk t.labels t.dims):(kh t).length=t.labels.length:=by simp [kh,h.len]
theorem ni (ts:List Ten):aF ts 0 0=(repI 100 0,true):=by simp [aF,dy,eY,dH]
theorem oP {ts:List Ten} (h:cM ts) {k:Nat} (hk:k<ts.length):aF ts k ts[k].labels.length=aF ts (k+1) 0:=by
 have e:ts.getD k ⟨[],[],[]⟩=ts[k]:=by simp [hk]
 have hl:=pj (h ts[k] (List.getElem_mem hk))
 unfold aF dy
 have e2:eY (ts.take (k+1))=eY (ts.take k)++kh ts[k]:=by
  rw[bb hk]
  unfold eY
  rw[List.flatMap_append]
  simp only[List.flatMap_cons,List.flatMap_nil,List.append_nil]
 rw[e,zt (l:=kh ts[k]) (by omega),e2,List.take_zero,List.append_nil]
theorem sv {ts:List Ten} (h:cM ts) {k q:Nat} (hk:k<ts.length) (hq:q<ts[k].labels.length) (hok:(aF ts k q).2=true):
  aF ts k (q+1)=if atT (aF ts k q).1 ts[k].labels[q]≠0∧atT (aF ts k q).1 ts[k].labels[q]≠ar ts[k] ts[k].labels[q] then ((aF ts k q).1,false) else ((aF ts k q).1.set ts[k].labels[q].toNat (ar ts[k] ts[k].labels[q]),true):=by
 have e:ts.getD k ⟨[],[],[]⟩=ts[k]:=by simp [hk]
 have hax:=h ts[k] (List.getElem_mem hk)
 have hl:=pj hax
 have hx:(kh ts[k])[q]'(by omega)=(ts[k].labels[q],ar ts[k] ts[k].labels[q]):=by
  rw[fK hax hq (by have:=hax.len;omega)]
  simp [kh]
 have e2:dy ts k (q+1)=dy ts k q++[(ts[k].labels[q],ar ts[k] ts[k].labels[q])]:=by
  unfold dy
  rw[e,bb (by omega),hx,List.append_assoc]
 unfold aF at hok ⊢
 rw[e2,hC,if_pos hok,dH]
 simp only[dH]
theorem zG {ts:List Ten} {k q:Nat} (hk:k<ts.length) (hok:(aF ts k q).2=false):dh ts=aF ts k q:=by
 have e:ts.getD k ⟨[],[],[]⟩=ts[k]:=by simp [hk]
 have e2:eY ts=dy ts k q++((kh ts[k]).drop q++eY (ts.drop (k+1))):=by
  unfold dy
  rw[e,List.append_assoc, ← List.append_assoc (List.take q _),List.take_append_drop]
  have e3:eY ts=eY (ts.take k)++eY (ts.drop k):=by unfold eY;rw[← List.flatMap_append,List.take_append_drop]
  have e4:ts.drop k=ts[k] :: ts.drop (k+1):=List.drop_eq_getElem_cons hk
  rw[e3,e4]
  unfold eY
  simp only[List.flatMap_cons]
 unfold dh aF at*
 rw[e2,hC,hok]
 simp
theorem uZ {ts:List Ten} {k:Nat} (hk:ts.length≤k):aF ts k 0=dh ts:=by
 unfold aF dy dh
 rw[zt hk]
 simp
theorem D4 {ts:List Ten} (h:cM ts) {k q:Nat} (hk:k<ts.length) (hq:q≤ts[k].labels.length):
  (∀ j,j<k→wR ts j)→(∀ x,0≤x∧x≤99→atT (aF ts k 0).1 x=dimN (ts.take k) x)→(aF ts k 0).2=true→
   ((aF ts k q).2=true↔∀ x∈ts[k].labels.take q,dimN (ts.take k) x=0∨dimN (ts.take k) x=ar ts[k] x)∧
   ((aF ts k q).2=true→∀ x,0≤x∧x≤99→atT (aF ts k q).1 x=if x∈ts[k].labels.take q then ar ts[k] x else dimN (ts.take k) x):=by
 intro hc h0 h1
 have hax:=h ts[k] (List.getElem_mem hk)
 induction q with
 | zero=>exact⟨⟨fun _ x hx=>by simp at hx,fun _=>h1⟩,fun _ x hx=>by rw[h0 x hx];simp⟩
 | succ q ih=>
  obtain⟨ih1,ih2⟩:=ih (by omega)
  have hq':q<ts[k].labels.length:=by omega
  have hlab:0≤ts[k].labels[q]∧ts[k].labels[q]≤99:=by
   have:=hax.2.2 q hq'
   unfold axAt at this
   rw[ab hq']at this
   omega
  have hfr:=hax.fresh hq'
  have htk:∀ x,x∈ts[k].labels.take (q+1)↔x∈ts[k].labels.take q∨x=ts[k].labels[q]:=fun x=>by rw[vr _ _ _ hq',ab hq']
  cases hb:(aF ts k q).2 with
  | false=>
   have e:aF ts k (q+1)=aF ts k q:=by
    have e0:ts.getD k ⟨[],[],[]⟩=ts[k]:=by simp [hk]
    have hl:=pj hax
    unfold aF at hb ⊢
    have e2:dy ts k (q+1)=dy ts k q++[(kh ts[k])[q]'(by omega)]:=by
     unfold dy
     rw[e0,bb (by omega),List.append_assoc]
    rw[e2,hC,hb]
    simp
   rw[e,hb]
   refine⟨⟨fun hf=>(by cases hf),fun hf=> ?_⟩,fun hf=>(by cases hf)⟩
   have:=ih1.2 fun x hx=>hf x ((htk x).2 (.inl hx))
   rw[hb]at this
   cases this
  | true=>
   have hD:=ih2 hb
   have hold:=ih1.1 hb
   have hst:=sv h hk hq' hb
   have hat:=hD _ hlab
   rw[if_neg hfr]at hat
   rw[hat]at hst
   have hpos:=cx hax (List.getElem_mem hq')
   by_cases hbad:dimN (ts.take k) ts[k].labels[q]≠0∧dimN (ts.take k) ts[k].labels[q]≠ar ts[k] ts[k].labels[q]
   ·rw[if_pos hbad]at hst
    rw[hst]
    refine⟨⟨fun hf=>(by cases hf),fun hf=> ?_⟩,fun hf=>(by cases hf)⟩
    rcases hf _ ((htk _).2 (.inr rfl))with e | e
    ·exact absurd e hbad.1
    ·exact absurd e hbad.2
   ·rw[if_neg hbad]at hst
    rw[hst]
    refine⟨⟨fun _ x hx=> ?_,fun _=>rfl⟩,fun _ x hx=> ?_⟩
    ·rcases(htk x).1 hx with hx | rfl
     ·exact hold x hx
     ·by_cases e:dimN (ts.take k) ts[k].labels[q]=0
      ·exact .inl e
      ·exact .inr (Classical.byContradiction fun e'=>hbad ⟨e,e'⟩)
    ·rw[Hu (uY ts k q) hlab hx,hD x hx]
     by_cases e:ts[k].labels[q]=x
     ·subst e;rw[if_pos rfl,if_pos ((htk _).2 (.inr rfl))]
     ·rw[if_neg e]
      by_cases hm:x∈ts[k].labels.take q
      ·rw[if_pos hm,if_pos ((htk x).2 (.inl hm))]
      ·rw[if_neg hm,if_neg (fun hx=>((htk x).1 hx).elim hm fun e'=>e e'.symm)]
theorem wM {ts:List Ten} (h:cM ts):∀ {k:Nat},k≤ts.length→(((aF ts k 0).2=true↔∀ j,j<k→wR ts j)∧((aF ts k 0).2=true→∀ x,0≤x∧x≤99→atT (aF ts k 0).1 x=dimN (ts.take k) x))
 | 0,_=>by
  rw[ni]
  exact⟨⟨fun _ j hj=>absurd hj (Nat.not_lt_zero j),fun _=>rfl⟩,fun _ x hx=>by rw[Hv];simp [dimN]⟩
 | k+1,hk=>by
  obtain⟨ih1,ih2⟩:=wM h (k:=k) (by omega)
  have hk':k<ts.length:=by omega
  have hax:=h ts[k] (List.getElem_mem hk')
  rw[← oP h hk']
  cases hb:(aF ts k 0).2 with
  | false=>
   have hf:(aF ts k ts[k].labels.length).2=false:=by
    unfold aF dy at hb ⊢
    rw[List.take_zero,List.append_nil]at hb
    rw[hC,hb]
    simpa using hb
   rw[hf]
   refine⟨⟨fun e=>(by cases e),fun e=> ?_⟩,fun e=>(by cases e)⟩
   have:=ih1.2 fun j hj=>e j (by omega)
   rw[hb]at this
   cases this
  | true=>
   obtain⟨h1,h2⟩:=D4 h hk' (Nat.le_refl _) (ih1.1 hb) (ih2 hb) hb
   rw[List.take_length]at h1 h2
   refine⟨h1.trans ⟨fun e j hj=> ?_,fun e x hx=>e k (by omega) x hk' hx⟩,fun e x hx=> ?_⟩
   ·by_cases ej:j=k
    ·subst ej;exact fun x _ hx=>e x hx
    ·exact ih1.1 hb j (by omega)
   ·rw[h2 e x hx,wN h hk']
    have hcons:=h1.1 e
    by_cases hm:x∈ts[k].labels
    ·rw[if_pos hm,if_pos hm]
     rcases hcons x hm with e0 | e0
     ·rw[if_pos e0]
     ·rw[e0,if_neg];have:=cx hax hm;omega
    ·rw[if_neg hm,if_neg hm]
     split
     ·rename_i e0;exact e0
     ·rfl
theorem v6 {ts:List Ten} (h:cM ts):((dh ts).2=true↔wS ts)∧((dh ts).2=true→∀ x,0≤x∧x≤99→atT (dh ts).1 x=dimN ts x):=by
 have:=wM h (k:=ts.length) (Nat.le_refl _)
 rw[uZ (Nat.le_refl _),List.take_length]at this
 exact this
theorem AH {ts:List Ten} (h:cM ts) {k:Nat} (hk:k<ts.length) {x:Int} (hno:∀ t∈ts.take k,x∉t.labels) (hm:x∈ts[k].labels):dimN ts x=ar ts[k] x:=by
 have h0:dimN (ts.take k) x=0:=by
  generalize ts.take k=l at hno
  induction l with
  | nil=>rfl
  | cons t l ih=>rw[dimN,if_neg (hno t (by simp))];exact ih fun t' ht'=>hno t' (by simp [ht'])
 have e4:ts.drop k=ts[k] :: ts.drop (k+1):=List.drop_eq_getElem_cons hk
 have e:dimN (ts.take k++ts.drop k) x=ar ts[k] x:=by rw[qJ _ _ _ (h.take k).ne,if_pos h0,e4,dimN,if_pos hm]
 rwa [List.take_append_drop]at e
theorem rP:∀ {ts:List Ten} {x:Int},(∀ t∈ts,x∉t.labels)→dimN ts x=0
 | [],_,_=>rfl
 | t :: l,x,h=>by rw[dimN,if_neg (h t (by simp))];exact rP fun t' ht'=>h t' (by simp [ht'])
theorem ay {N:Net}:bn N=true↔ae N.rg=true∧N.ts.length≤12∧eT N.rg N.ts∧wS N.ts∧aU N.os (N.os.map (dimN N.ts))≠ -1:=by
 simp only[bn,Bool.and_eq_true,decide_eq_true_eq]
 exact⟨fun⟨⟨⟨⟨a,b⟩,c⟩,d⟩,e⟩=>⟨a,b,c,d,e⟩,fun⟨a,b,c,d,e⟩=>⟨⟨⟨⟨a,b⟩,c⟩,d⟩,e⟩⟩
theorem d7 {N:Net} (h:¬ (ae N.rg=true∧N.ts.length≤12∧eT N.rg N.ts∧wS N.ts∧aU N.os (N.os.map (dimN N.ts))≠ -1)):bn N=false:=by
 cases e:bn N
 ·rfl
 ·exact absurd (ay.1 e) h
theorem zT {N:Net} (k:Nat) (hk:k<N.os.length) (h:¬ (0≤N.os[k]∧N.os[k]≤99∧dimN N.ts N.os[k]≠0)) (hax:cM N.ts):aU N.os (N.os.map (dimN N.ts))= -1:=by
 refine y4 k hk fun e=>h ?_
 unfold axAt at e
 rw[ab hk,ab (by simpa using hk)]at e
 simp only[List.getElem_map]at e
 exact⟨e.1,e.2.1,by omega⟩
theorem bS {N:Net} (h:bn N=true):cM N.ts:=(ay.1 h).2.2.1.ax
end Go.Proofs.YtjfmckhbmdjnpaaGreat
