/-
 Plain lists: the dimensions of a network's labels; valid networks. No condition.
-/
import Derived.Test.YtobhmajhachnaaaGreatDoorNetA
import Derived.Test.YtobhmajhachnaaaGreatDoorRng
set_option linter.unusedSimpArgs false
set_option linter.unusedVariables false
namespace Go.Proofs.YtobhmajhachnaaaGreatDoor
open Go.RowKit Go.Lift Plain
def dimN:List Ten→Int→Int
 | [],_=>0
 |t :: l,x=>if x∈t.labels then ao t x else dimN l x
theorem oZ:∀(a b:List Ten) (x:Int),(∀t∈a,x∈t.labels→ao t x≠0)→dimN (a++b) x=if dimN a x=0 then dimN b x else dimN a x
 | [],b,x,_=>by simp [dimN]
 |t :: l,b,x,h=>by
  rw[List.cons_append,dimN,dimN];by_cases hm:x∈t.labels
  ·rw[if_pos hm,if_pos hm,if_neg (h t (by simp) hm)]
  ·rw[if_neg hm,if_neg hm]
   exact oZ l b x fun t' ht'=>h t' (by simp [ht'])
def fM(r:Rg)(ts:List Ten):Prop:=∀t∈ts,al r t.labels t.dims t.data=true
def cQ(ts:List Ten):Prop:=∀t∈ts,axOk t.labels t.dims
theorem fM.ax{r:Rg}{ts:List Ten}(h:fM r ts):cQ ts:=fun t ht=>(bI (h t ht)).2.1
theorem cQ.take{ts:List Ten}(h:cQ ts)(k:Nat):cQ (ts.take k):=fun t ht=>h t (List.mem_of_mem_take ht)
theorem cQ.ne{ts:List Ten}(h:cQ ts){x:Int}:∀t∈ts,x∈t.labels→ao t x≠0:=fun t ht hm=>by have:=cg (h t ht) hm;omega
theorem iL:∀{ts:List Ten},cQ ts→∀x,dimN ts x=0∨(1≤dimN ts x∧dimN ts x≤8)
 | [],_,x=>.inl rfl
 |t :: l,h,x=>by
  rw[dimN];split
  ·rename_i hm
   exact .inr (cg (h t (by simp)) hm)
  ·exact iL (fun t' ht'=>h t' (by simp [ht'])) x
theorem xP{ts:List Ten}(h:cQ ts){x:Int}(hx:¬(0≤x∧x≤99)):dimN ts x=0:=by
 induction ts with
 |nil=>rfl
 |cons t l ih=>
  rw[dimN,if_neg (fun hm=>hx (by
   obtain⟨k,hk,rfl⟩:=List.getElem_of_mem hm;have:=(h t (by simp)).2.2 k hk;unfold axAt at this;rw[ac hk]at this;omega))]
  exact ih fun t' ht'=>h t' (by simp [ht'])
theorem uR{ts:List Ten}(h:cQ ts){k:Nat}(hk:k<ts.length)(x:Int):dimN (ts.take (k+1)) x=if dimN (ts.take k) x=0 then (if x∈ts[k].labels then ao ts[k] x else 0) else dimN (ts.take k) x:=by
 rw[ba hk,oZ _ _ _ (h.take k).ne];simp only[dimN]
def A8(ts:List Ten)(k:Nat):Prop:=∀x,(hk:k<ts.length)→x∈ts[k].labels→dimN (ts.take k) x=0∨dimN (ts.take k) x=ao ts[k] x
def A9(ts:List Ten):Prop:=∀k,k<ts.length→A8 ts k
open Classical in
noncomputable def netOk(N:Net):Bool:=ai N.rg&&decide (N.ts.length≤12)&&decide (fM N.rg N.ts)&&decide (A9 N.ts)&&decide (aT N.os (N.os.map (dimN N.ts))≠ -1)
def repI(n:Nat)(x:Int):List Int:=List.replicate n x
theorem dG(n:Nat)(x:Int):(repI n x).length=n:=by simp [repI]
theorem He(n:Nat)(x:Int):reps n (.d (.int x))=iv (repI n x):=by simp [reps,repI,iv]
def atT(D:List Int)(x:Int):Int:=D.getD x.toNat 0
theorem KY(n:Nat)(x:Int):atT (repI n 0) x=0:=by
 unfold atT repI;by_cases h:x.toNat<n
 ·rw[ac (by simpa using h)];simp
 ·rw[zq,List.getElem?_eq_none (by simp;omega)];rfl
theorem KX{D:List Int}{x y d:Int}(hl:D.length=100)(hx:0≤x∧x≤99)(hy:0≤y∧y≤99):atT (D.set x.toNat d) y=if x=y then d else atT D y:=by
 unfold atT;rw[zq,List.getElem?_set];by_cases e:x=y
 ·subst e;rw[if_pos rfl,if_pos (by omega),if_pos rfl];rfl
 ·rw[if_neg (by omega),if_neg e];rfl
def eo:List (Int × Int)→List Int→List Int × Bool
 | [],D=>(D,true)
 |(x,d) :: r,D=>if atT D x≠0∧atT D x≠d then (D,false) else eo r (D.set x.toNat d)
theorem jo:∀(a b:List (Int × Int)) (D:List Int),eo (a++b) D=if (eo a D).2=true then eo b (eo a D).1 else eo a D
 | [],b,D=>by simp [eo]
 |(x,d) :: r,b,D=>by
  rw[List.cons_append,eo,eo];split
  ·simp
  ·exact jo r b _
theorem rG:∀(a:List (Int × Int)) (D:List Int),(eo a D).1.length=D.length
 | [],D=>rfl
 |(x,d) :: r,D=>by
  rw[eo];split
  ·rfl
  ·rw[rG r,List.length_set]
def lD(t:Ten):List (Int × Int):=t.labels.zip t.dims
def fR(ts:List Ten):List (Int × Int):=ts.flatMap lD
def bA(ts:List Ten):List Int × Bool:=eo (fR ts) (repI 100 0)
theorem dz(ts:List Ten):(bA ts).1.length=100:=by rw[bA,rG,dG]
def ec(ts:List Ten)(k q:Nat):List (Int × Int):=fR (ts.take k)++(lD (ts.getD k ⟨[],[],[]⟩)).take q
def aD(ts:List Ten)(k q:Nat):List Int × Bool:=eo (ec ts k q) (repI 100 0)
theorem xN(ts:List Ten)(k q:Nat):(aD ts k q).1.length=100:=by rw[aD,rG,dG]
theorem rb{t:Ten}(h:axOk t.labels t.dims):(lD t).length=t.labels.length:=by simp [lD,h.len]
theorem oY(ts:List Ten):aD ts 0 0=(repI 100 0,true):=by simp [aD,ec,fR,eo]
theorem qG{ts:List Ten}(h:cQ ts){k:Nat}(hk:k<ts.length):aD ts k ts[k].labels.length=aD ts (k+1) 0:=by
 have e:ts.getD k ⟨[],[],[]⟩=ts[k]:=by simp [hk]
 have hl:=rb (h ts[k] (List.getElem_mem hk));unfold aD ec;have e2:fR (ts.take (k+1))=fR (ts.take k)++lD ts[k]:=by
  rw[ba hk];unfold fR;rw[List.flatMap_append];simp only[List.flatMap_cons,List.flatMap_nil,List.append_nil]
 rw[e,zt (l:=lD ts[k]) (by omega),e2,List.take_zero,List.append_nil]
theorem vn{ts:List Ten}(h:cQ ts){k q:Nat}(hk:k<ts.length)(hq:q<ts[k].labels.length)(hok:(aD ts k q).2=true):
  aD ts k (q+1)=if atT (aD ts k q).1 ts[k].labels[q]≠0∧atT (aD ts k q).1 ts[k].labels[q]≠ao ts[k] ts[k].labels[q] then ((aD ts k q).1,false) else ((aD ts k q).1.set ts[k].labels[q].toNat (ao ts[k] ts[k].labels[q]),true):=by
 have e:ts.getD k ⟨[],[],[]⟩=ts[k]:=by simp [hk]
 have hax:=h ts[k] (List.getElem_mem hk);have hl:=rb hax;have hx:(lD ts[k])[q]'(by omega)=(ts[k].labels[q],ao ts[k] ts[k].labels[q]):=by
  rw[gJ hax hq (by have:=hax.len;omega)];simp [lD]
 have e2:ec ts k (q+1)=ec ts k q++[(ts[k].labels[q],ao ts[k] ts[k].labels[q])]:=by
  unfold ec;rw[e,ba (by omega),hx,List.append_assoc]
 unfold aD at hok ⊢;rw[e2,jo,if_pos hok,eo];simp only[eo]
theorem CQ{ts:List Ten}{k q:Nat}(hk:k<ts.length)(hok:(aD ts k q).2=false):bA ts=aD ts k q:=by
 have e:ts.getD k ⟨[],[],[]⟩=ts[k]:=by simp [hk]
 have e2:fR ts=ec ts k q++((lD ts[k]).drop q++fR (ts.drop (k+1))):=by
  unfold ec;rw[e,List.append_assoc, ← List.append_assoc (List.take q _),List.take_append_drop];have e3:fR ts=fR (ts.take k)++fR (ts.drop k):=by unfold fR;rw[← List.flatMap_append,List.take_append_drop]
  have e4:ts.drop k=ts[k] :: ts.drop (k+1):=List.drop_eq_getElem_cons hk;rw[e3,e4];unfold fR;simp only[List.flatMap_cons]
 unfold bA aD at*;rw[e2,jo,hok]
 simp
theorem xO{ts:List Ten}{k:Nat}(hk:ts.length≤k):aD ts k 0=bA ts:=by
 unfold aD ec bA;rw[zt hk]
 simp
theorem G9{ts:List Ten}(h:cQ ts){k q:Nat}(hk:k<ts.length)(hq:q≤ts[k].labels.length):
  (∀j,j<k→A8 ts j)→(∀x,0≤x∧x≤99→atT (aD ts k 0).1 x=dimN (ts.take k) x)→(aD ts k 0).2=true→
   ((aD ts k q).2=true↔∀x∈ts[k].labels.take q,dimN (ts.take k) x=0∨dimN (ts.take k) x=ao ts[k] x)∧
   ((aD ts k q).2=true→∀x,0≤x∧x≤99→atT (aD ts k q).1 x=if x∈ts[k].labels.take q then ao ts[k] x else dimN (ts.take k) x):=by
 intro hc h0 h1;have hax:=h ts[k] (List.getElem_mem hk)
 induction q with
 |zero=>exact⟨⟨fun _ x hx=>by simp at hx,fun _=>h1⟩,fun _ x hx=>by rw[h0 x hx];simp⟩
 |succ q ih=>
  obtain⟨ih1,ih2⟩:=ih (by omega);have hq':q<ts[k].labels.length:=by omega
  have hlab:0≤ts[k].labels[q]∧ts[k].labels[q]≤99:=by
   have:=hax.2.2 q hq';unfold axAt at this;rw[ac hq']at this;omega
  have hfr:=hax.fresh hq';have htk:∀x,x∈ts[k].labels.take (q+1)↔x∈ts[k].labels.take q∨x=ts[k].labels[q]:=fun x=>by rw[lH _ _ _ hq',ac hq']
  cases hb:(aD ts k q).2 with
  |false=>
   have e:aD ts k (q+1)=aD ts k q:=by
    have e0:ts.getD k ⟨[],[],[]⟩=ts[k]:=by simp [hk]
    have hl:=rb hax;unfold aD at hb ⊢;have e2:ec ts k (q+1)=ec ts k q++[(lD ts[k])[q]'(by omega)]:=by
     unfold ec;rw[e0,ba (by omega),List.append_assoc]
    rw[e2,jo,hb]
    simp
   rw[e,hb];refine⟨⟨fun hf=>(by cases hf),fun hf=> ?_⟩,fun hf=>(by cases hf)⟩;have:=ih1.2 fun x hx=>hf x ((htk x).2 (.inl hx))
   rw[hb]at this;cases this
  |true=>
   have hD:=ih2 hb;have hold:=ih1.1 hb;have hst:=vn h hk hq' hb;have hat:=hD _ hlab;rw[if_neg hfr]at hat;rw[hat]at hst;have hpos:=cg hax (List.getElem_mem hq');by_cases hbad:dimN (ts.take k) ts[k].labels[q]≠0∧dimN (ts.take k) ts[k].labels[q]≠ao ts[k] ts[k].labels[q]
   ·rw[if_pos hbad]at hst
    rw[hst];refine⟨⟨fun hf=>(by cases hf),fun hf=> ?_⟩,fun hf=>(by cases hf)⟩;rcases hf _ ((htk _).2 (.inr rfl))with e|e
    ·exact absurd e hbad.1
    ·exact absurd e hbad.2
   ·rw[if_neg hbad]at hst
    rw[hst];refine⟨⟨fun _ x hx=> ?_,fun _=>rfl⟩,fun _ x hx=> ?_⟩
    ·rcases(htk x).1 hx with hx|rfl
     ·exact hold x hx
     ·by_cases e:dimN (ts.take k) ts[k].labels[q]=0
      ·exact .inl e
      ·exact .inr (Classical.byContradiction fun e'=>hbad ⟨e,e'⟩)
    ·rw[KX (xN ts k q) hlab hx,hD x hx]
     by_cases e:ts[k].labels[q]=x
     ·subst e;rw[if_pos rfl,if_pos ((htk _).2 (.inr rfl))]
     ·rw[if_neg e]
      by_cases hm:x∈ts[k].labels.take q
      ·rw[if_pos hm,if_pos ((htk x).2 (.inl hm))]
      ·rw[if_neg hm,if_neg (fun hx=>((htk x).1 hx).elim hm fun e'=>e e'.symm)]
theorem zR{ts:List Ten}(h:cQ ts):∀{k:Nat},k≤ts.length→(((aD ts k 0).2=true↔∀j,j<k→A8 ts j)∧((aD ts k 0).2=true→∀x,0≤x∧x≤99→atT (aD ts k 0).1 x=dimN (ts.take k) x))
 |0,_=>by
  rw[oY];exact⟨⟨fun _ j hj=>absurd hj (Nat.not_lt_zero j),fun _=>rfl⟩,fun _ x hx=>by rw[KY];simp [dimN]⟩
 |k+1,hk=>by
  obtain⟨ih1,ih2⟩:=zR h (k:=k) (by omega);have hk':k<ts.length:=by omega
  have hax:=h ts[k] (List.getElem_mem hk');rw[← qG h hk'];cases hb:(aD ts k 0).2 with
  |false=>
   have hf:(aD ts k ts[k].labels.length).2=false:=by
    unfold aD ec at hb ⊢;rw[List.take_zero,List.append_nil]at hb;rw[jo,hb];simpa using hb
   rw[hf];refine⟨⟨fun e=>(by cases e),fun e=> ?_⟩,fun e=>(by cases e)⟩;have:=ih1.2 fun j hj=>e j (by omega)
   rw[hb]at this;cases this
  |true=>
   obtain⟨h1,h2⟩:=G9 h hk' (Nat.le_refl _) (ih1.1 hb) (ih2 hb) hb;rw[List.take_length]at h1 h2;refine⟨h1.trans ⟨fun e j hj=> ?_,fun e x hx=>e k (by omega) x hk' hx⟩,fun e x hx=> ?_⟩
   ·by_cases ej:j=k
    ·subst ej;exact fun x _ hx=>e x hx
    ·exact ih1.1 hb j (by omega)
   ·rw[h2 e x hx,uR h hk']
    have hcons:=h1.1 e;by_cases hm:x∈ts[k].labels
    ·rw[if_pos hm,if_pos hm]
     rcases hcons x hm with e0|e0
     ·rw[if_pos e0]
     ·rw[e0,if_neg];have:=cg hax hm;omega
    ·rw[if_neg hm,if_neg hm]
     split
     ·rename_i e0;exact e0
     ·rfl
theorem du{ts:List Ten}(h:cQ ts):((bA ts).2=true↔A9 ts)∧((bA ts).2=true→∀x,0≤x∧x≤99→atT (bA ts).1 x=dimN ts x):=by
 have:=zR h (k:=ts.length) (Nat.le_refl _);rw[xO (Nat.le_refl _),List.take_length]at this;exact this
theorem DP{ts:List Ten}(h:cQ ts){k:Nat}(hk:k<ts.length){x:Int}(hno:∀t∈ts.take k,x∉t.labels)(hm:x∈ts[k].labels):dimN ts x=ao ts[k] x:=by
 have h0:dimN (ts.take k) x=0:=by
  generalize ts.take k=l at hno
  induction l with
  |nil=>rfl
  |cons t l ih=>rw[dimN,if_neg (hno t (by simp))];exact ih fun t' ht'=>hno t' (by simp [ht'])
 have e4:ts.drop k=ts[k] :: ts.drop (k+1):=List.drop_eq_getElem_cons hk;have e:dimN (ts.take k++ts.drop k) x=ao ts[k] x:=by rw[oZ _ _ _ (h.take k).ne,if_pos h0,e4,dimN,if_pos hm]
 rwa [List.take_append_drop]at e
theorem uQ:∀{ts:List Ten} {x:Int},(∀t∈ts,x∉t.labels)→dimN ts x=0
 | [],_,_=>rfl
 |t :: l,x,h=>by rw[dimN,if_neg (h t (by simp))];exact uQ fun t' ht'=>h t' (by simp [ht'])
theorem ae{N:Net}:netOk N=true↔ai N.rg=true∧N.ts.length≤12∧fM N.rg N.ts∧A9 N.ts∧aT N.os (N.os.map (dimN N.ts))≠ -1:=by
 simp only[netOk,Bool.and_eq_true,decide_eq_true_eq];exact⟨fun⟨⟨⟨⟨a,b⟩,c⟩,d⟩,e⟩=>⟨a,b,c,d,e⟩,fun⟨a,b,c,d,e⟩=>⟨⟨⟨⟨a,b⟩,c⟩,d⟩,e⟩⟩
theorem dr{N:Net}(h:¬(ai N.rg=true∧N.ts.length≤12∧fM N.rg N.ts∧A9 N.ts∧aT N.os (N.os.map (dimN N.ts))≠ -1)):netOk N=false:=by
 cases e:netOk N
 ·rfl
 ·exact absurd (ae.1 e) h
theorem D7{N:Net}(k:Nat)(hk:k<N.os.length)(h:¬(0≤N.os[k]∧N.os[k]≤99∧dimN N.ts N.os[k]≠0))(hax:cQ N.ts):aT N.os (N.os.map (dimN N.ts))= -1:=by
 refine Bp k hk fun e=>h ?_
 unfold axAt at e;rw[ac hk,ac (by simpa using hk)]at e;simp only[List.getElem_map]at e;exact⟨e.1,e.2.1,by omega⟩
theorem bq{N:Net}(h:netOk N=true):cQ N.ts:=(ae.1 h).2.2.1.ax
end Go.Proofs.YtobhmajhachnaaaGreatDoor
