/-
 Plain lists: the dimensions of a network's labels; valid networks. No condition.
-/
import Derived.Test.YtneocijmbnhblaaGreatNetA
import Derived.Test.YtneocijmbnhblaaGreatRngB
set_option linter.unusedSimpArgs false
set_option linter.unusedVariables false
namespace Go.Proofs.YtneocijmbnhblaaGreat
open Go.RowKit Go.Lift Plain
def dimN:List Ten→Int→Int
 | [],_=>0
 | t :: l,x=>if x∈t.labels then aE t x else dimN l x
theorem mP:∀ (a b:List Ten) (x:Int),(∀ t∈a,x∈t.labels→aE t x≠0)→dimN (a++b) x=if dimN a x=0 then dimN b x else dimN a x
 | [],b,x,_=>by simp [dimN]
 | t :: l,b,x,h=>by
  rw[List.cons_append,dimN,dimN]
  by_cases hm:x∈t.labels
  ·rw[if_pos hm,if_pos hm,if_neg (h t (by simp) hm)]
  ·rw[if_neg hm,if_neg hm]
   exact mP l b x fun t' ht'=>h t' (by simp [ht'])
def eV (r:Rg) (ts:List Ten):Prop:=∀ t∈ts,aA r t.labels t.dims t.data=true
def d7 (ts:List Ten):Prop:=∀ t∈ts,axOk t.labels t.dims
theorem eV.ax {r:Rg} {ts:List Ten} (h:eV r ts):d7 ts:=fun t ht=>(cQ (h t ht)).2.1
theorem d7.take {ts:List Ten} (h:d7 ts) (k:Nat):d7 (ts.take k):=fun t ht=>h t (List.mem_of_mem_take ht)
theorem d7.ne {ts:List Ten} (h:d7 ts) {x:Int}:∀ t∈ts,x∈t.labels→aE t x≠0:=fun t ht hm=>by have:=cJ (h t ht) hm;omega
theorem gW:∀ {ts:List Ten},d7 ts→∀ x,dimN ts x=0∨(1≤dimN ts x∧dimN ts x≤8)
 | [],_,x=>.inl rfl
 | t :: l,h,x=>by
  rw[dimN]
  split
  ·rename_i hm
   exact .inr (cJ (h t (by simp)) hm)
  ·exact gW (fun t' ht'=>h t' (by simp [ht'])) x
theorem B4 {ts:List Ten} (h:d7 ts) {x:Int} (hx:¬ (0≤x∧x≤99)):dimN ts x=0:=by
 induction ts with
 | nil=>rfl
 | cons t l ih=>
  rw[dimN,if_neg (fun hm=>hx (by
   obtain⟨k,hk,rfl⟩:=List.getElem_of_mem hm
   have:=(h t (by simp)).2.2 k hk
   unfold axAt at this
   rw[ao hk]at this
   omega))]
  exact ih fun t' ht'=>h t' (by simp [ht'])
theorem sy {ts:List Ten} (h:d7 ts) {k:Nat} (hk:k<ts.length) (x:Int):dimN (ts.take (k+1)) x=if dimN (ts.take k) x=0 then (if x∈ts[k].labels then aE ts[k] x else 0) else dimN (ts.take k) x:=by
 rw[bm hk,mP _ _ _ (h.take k).ne]
 simp only[dimN]
def sC (ts:List Ten) (k:Nat):Prop:=∀ x,(hk:k<ts.length)→x∈ts[k].labels→dimN (ts.take k) x=0∨dimN (ts.take k) x=aE ts[k] x
def sD (ts:List Ten):Prop:=∀ k,k<ts.length→sC ts k
open Classical in
noncomputable def br (N:Net):Bool:=aq N.rg&&decide (N.ts.length≤12)&&decide (eV N.rg N.ts)&&decide (sD N.ts)&&decide (be N.os (N.os.map (dimN N.ts))≠ -1)
def repI (n:Nat) (x:Int):List Int:=List.replicate n x
theorem ij (n:Nat) (x:Int):(repI n x).length=n:=by simp [repI]
theorem zJ (n:Nat) (x:Int):reps n (.d (.int x))=iv (repI n x):=by simp [reps,repI,iv]
def atT (D:List Int) (x:Int):Int:=D.getD x.toNat 0
theorem D2 (n:Nat) (x:Int):atT (repI n 0) x=0:=by
 unfold atT repI
 by_cases h:x.toNat<n
 ·rw[ao (by simpa using h)];simp
 ·rw[List.getD_eq_getElem?_getD,List.getElem?_eq_none (by simp;omega)];rfl
theorem D1 {D:List Int} {x y d:Int} (hl:D.length=100) (hx:0≤x∧x≤99) (hy:0≤y∧y≤99):atT (D.set x.toNat d) y=if x=y then d else atT D y:=by
 unfold atT
 rw[List.getD_eq_getElem?_getD,List.getElem?_set]
 by_cases e:x=y
 ·subst e;rw[if_pos rfl,if_pos (by omega),if_pos rfl];rfl
 ·rw[if_neg (by omega),if_neg e];rfl
def dR:List (Int × Int)→List Int→List Int × Bool
 | [],D=>(D,true)
 | (x,d) :: r,D=>if atT D x≠0∧atT D x≠d then (D,false) else dR r (D.set x.toNat d)
theorem gD:∀ (a b:List (Int × Int)) (D:List Int),dR (a++b) D=if (dR a D).2=true then dR b (dR a D).1 else dR a D
 | [],b,D=>by simp [dR]
 | (x,d) :: r,b,D=>by
  rw[List.cons_append,dR,dR]
  split
  ·simp
  ·exact gD r b _
theorem ln:∀ (a:List (Int × Int)) (D:List Int),(dR a D).1.length=D.length
 | [],D=>rfl
 | (x,d) :: r,D=>by
  rw[dR]
  split
  ·rfl
  ·rw[ln r,List.length_set]
def i4 (t:Ten):List (Int × Int):=t.labels.zip t.dims
def fc (ts:List Ten):List (Int × Int):=ts.flatMap i4
def cC (ts:List Ten):List Int × Bool:=dR (fc ts) (repI 100 0)
theorem iJ (ts:List Ten):(cC ts).1.length=100:=by rw[cC,ln,ij]
def dL (ts:List Ten) (k q:Nat):List (Int × Int):=fc (ts.take k)++(i4 (ts.getD k ⟨[],[],[]⟩)).take q
def aN (ts:List Ten) (k q:Nat):List Int × Bool:=dR (dL ts k q) (repI 100 0)
theorem qN (ts:List Ten) (k q:Nat):(aN ts k q).1.length=100:=by rw[aN,ln,ij]
theorem l4 {t:Ten} (h:axOk t.labels t.dims):(i4 t).length=t.labels.length:=by simp [i4,h.len]
theorem ke (ts:List Ten):aN ts 0 0=(repI 100 0,true):=by simp [aN,dL,fc,dR]
theorem kY {ts:List Ten} (h:d7 ts) {k:Nat} (hk:k<ts.length):aN ts k ts[k].labels.length=aN ts (k+1) 0:=by
 have e:ts.getD k ⟨[],[],[]⟩=ts[k]:=by simp [hk]
 have hl:=l4 (h ts[k] (List.getElem_mem hk))
 unfold aN dL
 have e2:fc (ts.take (k+1))=fc (ts.take k)++i4 ts[k]:=by
  rw[bm hk]
  unfold fc
  rw[List.flatMap_append]
  simp only[List.flatMap_cons,List.flatMap_nil,List.append_nil]
 rw[e,List.take_of_length_le (l:=i4 ts[k]) (by omega),e2,List.take_zero,List.append_nil]
theorem oH {ts:List Ten} (h:d7 ts) {k q:Nat} (hk:k<ts.length) (hq:q<ts[k].labels.length) (hok:(aN ts k q).2=true):
  aN ts k (q+1)=if atT (aN ts k q).1 ts[k].labels[q]≠0∧atT (aN ts k q).1 ts[k].labels[q]≠aE ts[k] ts[k].labels[q] then ((aN ts k q).1,false) else ((aN ts k q).1.set ts[k].labels[q].toNat (aE ts[k] ts[k].labels[q]),true):=by
 have e:ts.getD k ⟨[],[],[]⟩=ts[k]:=by simp [hk]
 have hax:=h ts[k] (List.getElem_mem hk)
 have hl:=l4 hax
 have hx:(i4 ts[k])[q]'(by omega)=(ts[k].labels[q],aE ts[k] ts[k].labels[q]):=by
  rw[fN hax hq (by have:=hax.len;omega)]
  simp [i4]
 have e2:dL ts k (q+1)=dL ts k q++[(ts[k].labels[q],aE ts[k] ts[k].labels[q])]:=by
  unfold dL
  rw[e,bm (by omega),hx,List.append_assoc]
 unfold aN at hok ⊢
 rw[e2,gD,if_pos hok,dR]
 simp only[dR]
theorem vx {ts:List Ten} {k q:Nat} (hk:k<ts.length) (hok:(aN ts k q).2=false):cC ts=aN ts k q:=by
 have e:ts.getD k ⟨[],[],[]⟩=ts[k]:=by simp [hk]
 have e2:fc ts=dL ts k q++((i4 ts[k]).drop q++fc (ts.drop (k+1))):=by
  unfold dL
  rw[e,List.append_assoc, ← List.append_assoc (List.take q _),List.take_append_drop]
  have e3:fc ts=fc (ts.take k)++fc (ts.drop k):=by unfold fc;rw[← List.flatMap_append,List.take_append_drop]
  have e4:ts.drop k=ts[k] :: ts.drop (k+1):=List.drop_eq_getElem_cons hk
  rw[e3,e4]
  unfold fc
  simp only[List.flatMap_cons]
 unfold cC aN at*
 rw[e2,gD,hok]
 simp
theorem qO {ts:List Ten} {k:Nat} (hk:ts.length≤k):aN ts k 0=cC ts:=by
 unfold aN dL cC
 rw[List.take_of_length_le hk]
 simp
theorem yM {ts:List Ten} (h:d7 ts) {k q:Nat} (hk:k<ts.length) (hq:q≤ts[k].labels.length):
  (∀ j,j<k→sC ts j)→(∀ x,0≤x∧x≤99→atT (aN ts k 0).1 x=dimN (ts.take k) x)→(aN ts k 0).2=true→
   ((aN ts k q).2=true↔∀ x∈ts[k].labels.take q,dimN (ts.take k) x=0∨dimN (ts.take k) x=aE ts[k] x)∧
   ((aN ts k q).2=true→∀ x,0≤x∧x≤99→atT (aN ts k q).1 x=if x∈ts[k].labels.take q then aE ts[k] x else dimN (ts.take k) x):=by
 intro hc h0 h1
 have hax:=h ts[k] (List.getElem_mem hk)
 induction q with
 | zero=>exact⟨⟨fun _ x hx=>by simp at hx,fun _=>h1⟩,fun _ x hx=>by rw[h0 x hx];simp⟩
 | succ q ih=>
  obtain⟨ih1,ih2⟩:=ih (by omega)
  have hq':q<ts[k].labels.length:=by omega
  have hlab:0≤ts[k].labels[q]∧ts[k].labels[q]≤99:=by
   have:=hax.2.2 q hq'
   unfold axAt at this
   rw[ao hq']at this
   omega
  have hfr:=hax.fresh hq'
  have htk:∀ x,x∈ts[k].labels.take (q+1)↔x∈ts[k].labels.take q∨x=ts[k].labels[q]:=fun x=>by rw[r9 _ _ _ hq',ao hq']
  cases hb:(aN ts k q).2 with
  | false=>
   have e:aN ts k (q+1)=aN ts k q:=by
    have e0:ts.getD k ⟨[],[],[]⟩=ts[k]:=by simp [hk]
    have hl:=l4 hax
    unfold aN at hb ⊢
    have e2:dL ts k (q+1)=dL ts k q++[(i4 ts[k])[q]'(by omega)]:=by
     unfold dL
     rw[e0,bm (by omega),List.append_assoc]
    rw[e2,gD,hb]
    simp
   rw[e,hb]
   refine⟨⟨fun hf=>(by cases hf),fun hf=> ?_⟩,fun hf=>(by cases hf)⟩
   have:=ih1.2 fun x hx=>hf x ((htk x).2 (.inl hx))
   rw[hb]at this
   cases this
  | true=>
   have hD:=ih2 hb
   have hold:=ih1.1 hb
   have hst:=oH h hk hq' hb
   have hat:=hD _ hlab
   rw[if_neg hfr]at hat
   rw[hat]at hst
   have hpos:=cJ hax (List.getElem_mem hq')
   by_cases hbad:dimN (ts.take k) ts[k].labels[q]≠0∧dimN (ts.take k) ts[k].labels[q]≠aE ts[k] ts[k].labels[q]
   ·rw[if_pos hbad]at hst
    rw[hst]
    refine⟨⟨fun hf=>(by cases hf),fun hf=> ?_⟩,fun hf=>(by cases hf)⟩
    rcases hf _ ((htk _).2 (.inr rfl))with e | e
    ·exact absurd e hbad.1
    ·exact absurd e hbad.2
   ·rw[if_neg hbad]at hst
    rw[hst]
    refine⟨⟨fun _ x hx=> ?_,fun _=>rfl⟩,fun _ x hx=> ?_⟩
    ·rcases(htk x).1 hx with hx | rfl
     ·exact hold x hx
     ·by_cases e:dimN (ts.take k) ts[k].labels[q]=0
      ·exact .inl e
      ·exact .inr (Classical.byContradiction fun e'=>hbad ⟨e,e'⟩)
    ·rw[D1 (qN ts k q) hlab hx,hD x hx]
     by_cases e:ts[k].labels[q]=x
     ·subst e;rw[if_pos rfl,if_pos ((htk _).2 (.inr rfl))]
     ·rw[if_neg e]
      by_cases hm:x∈ts[k].labels.take q
      ·rw[if_pos hm,if_pos ((htk x).2 (.inl hm))]
      ·rw[if_neg hm,if_neg (fun hx=>((htk x).1 hx).elim hm fun e'=>e e'.symm)]
theorem sx {ts:List Ten} (h:d7 ts):∀ {k:Nat},k≤ts.length→(((aN ts k 0).2=true↔∀ j,j<k→sC ts j)∧((aN ts k 0).2=true→∀ x,0≤x∧x≤99→atT (aN ts k 0).1 x=dimN (ts.take k) x))
 | 0,_=>by
  rw[ke]
  exact⟨⟨fun _ j hj=>absurd hj (Nat.not_lt_zero j),fun _=>rfl⟩,fun _ x hx=>by rw[D2];simp [dimN]⟩
 | k+1,hk=>by
  obtain⟨ih1,ih2⟩:=sx h (k:=k) (by omega)
  have hk':k<ts.length:=by omega
  have hax:=h ts[k] (List.getElem_mem hk')
  rw[← kY h hk']
  cases hb:(aN ts k 0).2 with
  | false=>
   have hf:(aN ts k ts[k].labels.length).2=false:=by
    unfold aN dL at hb ⊢
    rw[List.take_zero,List.append_nil]at hb
    rw[gD,hb]
    simpa using hb
   rw[hf]
   refine⟨⟨fun e=>(by cases e),fun e=> ?_⟩,fun e=>(by cases e)⟩
   have:=ih1.2 fun j hj=>e j (by omega)
   rw[hb]at this
   cases this
  | true=>
   obtain⟨h1,h2⟩:=yM h hk' (Nat.le_refl _) (ih1.1 hb) (ih2 hb) hb
   rw[List.take_length]at h1 h2
   refine⟨h1.trans ⟨fun e j hj=> ?_,fun e x hx=>e k (by omega) x hk' hx⟩,fun e x hx=> ?_⟩
   ·by_cases ej:j=k
    ·subst ej;exact fun x _ hx=>e x hx
    ·exact ih1.1 hb j (by omega)
   ·rw[h2 e x hx,sy h hk']
    have hcons:=h1.1 e
    by_cases hm:x∈ts[k].labels
    ·rw[if_pos hm,if_pos hm]
     rcases hcons x hm with e0 | e0
     ·rw[if_pos e0]
     ·rw[e0,if_neg];have:=cJ hax hm;omega
    ·rw[if_neg hm,if_neg hm]
     split
     ·rename_i e0;exact e0
     ·rfl
theorem vy {ts:List Ten} (h:d7 ts):((cC ts).2=true↔sD ts)∧((cC ts).2=true→∀ x,0≤x∧x≤99→atT (cC ts).1 x=dimN ts x):=by
 have:=sx h (k:=ts.length) (Nat.le_refl _)
 rw[qO (Nat.le_refl _),List.take_length]at this
 exact this
theorem wE {ts:List Ten} (h:d7 ts) {k:Nat} (hk:k<ts.length) {x:Int} (hno:∀ t∈ts.take k,x∉t.labels) (hm:x∈ts[k].labels):dimN ts x=aE ts[k] x:=by
 have h0:dimN (ts.take k) x=0:=by
  generalize ts.take k=l at hno
  induction l with
  | nil=>rfl
  | cons t l ih=>rw[dimN,if_neg (hno t (by simp))];exact ih fun t' ht'=>hno t' (by simp [ht'])
 have e4:ts.drop k=ts[k] :: ts.drop (k+1):=List.drop_eq_getElem_cons hk
 have e:dimN (ts.take k++ts.drop k) x=aE ts[k] x:=by rw[mP _ _ _ (h.take k).ne,if_pos h0,e4,dimN,if_pos hm]
 rwa [List.take_append_drop]at e
theorem o3:∀ {ts:List Ten} {x:Int},(∀ t∈ts,x∉t.labels)→dimN ts x=0
 | [],_,_=>rfl
 | t :: l,x,h=>by rw[dimN,if_neg (h t (by simp))];exact o3 fun t' ht'=>h t' (by simp [ht'])
theorem ay {N:Net}:br N=true↔aq N.rg=true∧N.ts.length≤12∧eV N.rg N.ts∧sD N.ts∧be N.os (N.os.map (dimN N.ts))≠ -1:=by
 simp only[br,Bool.and_eq_true,decide_eq_true_eq]
 exact⟨fun⟨⟨⟨⟨a,b⟩,c⟩,d⟩,e⟩=>⟨a,b,c,d,e⟩,fun⟨a,b,c,d,e⟩=>⟨⟨⟨⟨a,b⟩,c⟩,d⟩,e⟩⟩
theorem dj {N:Net} (h:¬ (aq N.rg=true∧N.ts.length≤12∧eV N.rg N.ts∧sD N.ts∧be N.os (N.os.map (dimN N.ts))≠ -1)):br N=false:=by
 cases e:br N
 ·rfl
 ·exact absurd (ay.1 e) h
theorem vK {N:Net} (k:Nat) (hk:k<N.os.length) (h:¬ (0≤N.os[k]∧N.os[k]≤99∧dimN N.ts N.os[k]≠0)) (hax:d7 N.ts):be N.os (N.os.map (dimN N.ts))= -1:=by
 refine uc k hk fun e=>h ?_
 unfold axAt at e
 rw[ao hk,ao (by simpa using hk)]at e
 simp only[List.getElem_map]at e
 exact⟨e.1,e.2.1,by omega⟩
theorem cR {N:Net} (h:br N=true):d7 N.ts:=(ay.1 h).2.2.1.ax
end Go.Proofs.YtneocijmbnhblaaGreat
