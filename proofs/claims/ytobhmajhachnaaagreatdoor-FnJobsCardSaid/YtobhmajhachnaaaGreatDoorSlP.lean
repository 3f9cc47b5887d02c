/-
 Plain: networks sliced at several labels; peaks of slices. No condition.
-/
import Derived.Test.YtobhmajhachnaaaGreatDoorSlN
import Derived.Test.YtobhmajhachnaaaGreatDoorNetC
import Derived.Test.YtobhmajhachnaaaGreatDoorOrdB
set_option linter.unusedSimpArgs false
set_option linter.unusedVariables false
namespace Go.Proofs.YtobhmajhachnaaaGreatDoor
open Go.RowKit Go.Lift Plain
set_option maxRecDepth 100000
structure SlV(N:Net)(L V:List Int):Prop where
 ok:netOk N=true
 sz:NSz 1048576 N
 len:L.length=V.length
 dim:∀j,j<L.length→0≤V.getD j 0∧V.getD j 0<dimN N.ts (L.getD j 0)
section
variable {N : Net} {L V : List Int}
theorem SlV.good(h:SlV N L V){t:Ten}(ht:t∈N.ts):∀n,n≤L.length→AY N.rg t L V n
 |0,_,j,hj=>by omega
 |n+1,hn,j,hj=>by
  have ih:=h.good ht n (by omega);by_cases hjn:j<n
  ·exact ih j hjn
  ·obtain rfl:j=n:=by omega
   intro hm;have hst:=IC ((ae.1 h.ok).2.2.1 t ht) (h.sz.t t ht) j (by omega) ih;have hd:=hst.dim _ hm;have ha:=zY h.ok ht ((hst.lab _).1 hm).1;have hv:=h.dim j (by omega);simp only[sliB,Bool.and_eq_true,decide_eq_true_eq];exact⟨hst.ok,hm,hv.1,by rw[hd,ha];exact hv.2⟩
theorem SlV.st(h:SlV N L V){t:Ten}(ht:t∈N.ts){k:Nat}(hk:k≤L.length):FixSt N.rg t L k (d7 N.rg t L V k):=IC ((ae.1 h.ok).2.2.1 t ht) (h.sz.t t ht) k hk (h.good ht k hk)
def outL(L:List Int)(k:Nat)(x:Int):Bool:= !(has (L.take k) x)
theorem yY{k:Nat}(hk:k<L.length)(x:Int):outL L (k+1) x=(outL L k x&&x !=L.getD k 0):=by
 unfold outL;rw[Bool.eq_iff_iff];simp only[Bool.not_eq_true',Bool.and_eq_true,bne_iff_ne,ne_eq];rw[aI,aI,lH L k x hk];exact⟨fun h=>⟨fun e=>h (.inl e),fun e=>h (.inr e)⟩,fun h e=>e.elim h.1 h.2⟩
theorem SlV.labels(h:SlV N L V){t:Ten}(ht:t∈N.ts):∀k,k≤L.length→(d7 N.rg t L V k).labels=t.labels.filter (outL L k)
 |0,_=>by
  have:outL L 0=fun _=>true:=by funext x;simp [outL,has]
  rw[this]
  exact(List.filter_eq_self.2 fun _ _=>rfl).symm
 |k+1,hk=>by
  have ih:=h.labels ht k (by omega);have e:t.labels.filter (outL L (k+1))=(t.labels.filter (outL L k)).filter (fun x=>x !=L.getD k 0):=by
   rw[List.filter_filter];refine List.filter_congr fun x _=> ?_
   rw[yY (by omega),Bool.and_comm]
  rw[e, ← ih,d7];split
  ·rename_i hm
   obtain⟨u,wd,n,j,e1,e2,e3,hS,e4⟩:=sb (h.good ht (k+1) hk k (by omega) hm);rw[e4]
   rfl
  ·rename_i hm
   refine(List.filter_eq_self.2 fun x hx=> ?_).symm
   simp only[bne_iff_ne,ne_eq];intro e;exact hm (e ▸ hx)
def slK(N:Net)(L V:List Int)(k:Nat):Net:=⟨N.k,N.p,N.n,N.ts.map (fun t=>d7 N.rg t L V k),N.os.filter (outL L k)⟩
def slA(N:Net)(L V:List Int):Net:=slK N L V L.length
theorem SlV.dimN'(h:SlV N L V){k:Nat}(hk:k≤L.length):∀(l:List Ten),(∀t∈l,t∈N.ts)→∀x,dimN (l.map (fun t=>d7 N.rg t L V k)) x=if outL L k x=true then dimN l x else 0
 | [],_,x=>by simp [dimN]
 |t :: l,hl,x=>by
  have ih:=h.dimN' hk l (fun t' ht=>hl t' (by simp [ht])) x;have hst:=h.st (hl t (by simp)) hk;rw[List.map_cons,dimN,dimN,ih];have hm:x∈(d7 N.rg t L V k).labels↔x∈t.labels∧outL L k x=true:=by
   rw[hst.lab,outL,Bool.not_eq_true',aI]
  by_cases hx:outL L k x=true
  ·rw[if_pos hx,if_pos hx]
   by_cases ht:x∈t.labels
   ·rw[if_pos (hm.2 ⟨ht,hx⟩),if_pos ht,hst.dim x (hm.2 ⟨ht,hx⟩)]
   ·rw[if_neg (fun e=>ht (hm.1 e).1),if_neg ht]
  ·rw[if_neg hx,if_neg hx,if_neg (fun e=>hx (hm.1 e).2)]
theorem vY{k:Nat}:(slK N L V k).ts.length=N.ts.length:=by simp [slK]
theorem SlV.netOk(h:SlV N L V){k:Nat}(hk:k≤L.length):netOk (slK N L V k)=true:=by
 obtain⟨h1,h2,h3,h4,h5⟩:=ae.1 h.ok;have hax:cQ (slK N L V k).ts:=fun t ht=>by
  obtain⟨u,hu,rfl⟩:=List.mem_map.1 ht
  exact(bI (h.st hu hk).ok).2.1
 refine ae.2 ⟨h1,by rw[vY];exact h2,fun t ht=> ?_,fun j hj x hj' hx=> ?_, ?_⟩
 ·obtain⟨u,hu,rfl⟩:=List.mem_map.1 ht
  exact(h.st hu hk).ok
 ·rw[vY]at hj
  have hu:N.ts[j]∈N.ts:=List.getElem_mem hj;have e1:(slK N L V k).ts[j]=d7 N.rg N.ts[j] L V k:=by simp [slK]
  have e2:(slK N L V k).ts.take j=(N.ts.take j).map (fun t=>d7 N.rg t L V k):=by simp [slK,List.map_take]
  rw[e1]at hx;have hst:=h.st hu hk;have hxo:outL L k x=true:=by rw[outL,Bool.not_eq_true',aI];exact((hst.lab x).1 hx).2
  rw[e1,e2,h.dimN' hk _ (fun t ht=>List.mem_of_mem_take ht),if_pos hxo,hst.dim x hx];exact h4 j hj x hj ((hst.lab x).1 hx).1
 ·have hoax:axOk N.os (N.os.map (dimN N.ts))∧aa (N.os.map (dimN N.ts))≤4096:=by
   false_or_by_contra
   rename_i hc;exact h5 (if_neg hc)
  have hnd:=bE hoax.1;have hlen:(N.os.filter (outL L k)).length≤N.os.length:=List.length_filter_le _ _;have hos:(slK N L V k).os=N.os.filter (outL L k):=rfl;have hdm:(slK N L V k).os.map (dimN (slK N L V k).ts)=(N.os.filter (outL L k)).map (dimN N.ts):=by
   rw[hos];refine List.map_congr_left fun x hx=> ?_
   show dimN (N.ts.map _) x=_
   rw[h.dimN' hk _ (fun t ht=>ht),if_pos (List.mem_filter.1 hx).2]
  rw[hdm,hos];have hbd:∀x∈N.os,1≤dimN N.ts x∧dimN N.ts x≤8:=fun x hx=>hoax.1.dim _ (List.mem_map.2 ⟨x,hx,rfl⟩)
  have hax2:axOk (N.os.filter (outL L k)) ((N.os.filter (outL L k)).map (dimN N.ts)):=qo (by have:=hoax.1.1;omega) (by simp) (hnd.filter _) (fun l hl=>D1 hoax.1 l (List.mem_filter.1 hl).1) fun d hd=>by
   obtain⟨x,hx,rfl⟩:=List.mem_map.1 hd;exact hbd x (List.mem_filter.1 hx).1
  have hp:=iy (f:=dimN N.ts) (L:=N.os.filter (outL L k)) (ls:=N.os) (hnd.filter _) (fun x hx=>(List.mem_filter.1 hx).1) (fun x hx=>(hbd x hx).1);have hp1:=aW ((N.os.filter (outL L k)).map (dimN N.ts)) (fun d hd=>hax2.dim d hd |>.1);have e:aT (N.os.filter (outL L k)) ((N.os.filter (outL L k)).map (dimN N.ts))=aa ((N.os.filter (outL L k)).map (dimN N.ts)):=if_pos ⟨hax2,by omega⟩;rw[e];omega
theorem SlV.sz'(h:SlV N L V){k:Nat}(hk:k≤L.length):NSz 1048576 (slK N L V k):=by
 have hf:=List.length_filter_le (outL L k) N.os;have ho:=h.sz.o.len;refine⟨h.sz.k,h.sz.p,h.sz.n,by rw[vY];exact h.sz.l,fun t ht=> ?_,⟨by show (N.os.filter _).length≤_;omega,fun y hy=>h.sz.o.wf y (List.mem_filter.1 hy).1⟩⟩;obtain⟨u,hu,rfl⟩:=List.mem_map.1 ht
 exact(h.st hu hk).sz
theorem GM:slK N L V 0=N:=by
 have:outL L 0=fun _=>true:=by funext x;simp [outL,has]
 unfold slK;rw[this,show N.os.filter (fun _=>true)=N.os from List.filter_eq_self.2 fun _ _=>rfl];simp only[d7,List.map_id']
theorem SlV.next(h:SlV N L V){k:Nat}(hk:k<L.length)(hnd:L.getD k 0∉L.take k):slcB (slK N L V k) (L.getD k 0) (V.getD k 0)=true∧slcN (slK N L V k) (L.getD k 0) (V.getD k 0)=slK N L V (k+1):=by
 have hok:=h.netOk (k:=k) (by omega);have hv:=h.dim k hk;have hdm:dimN (slK N L V k).ts (L.getD k 0)=dimN N.ts (L.getD k 0):=by
  show dimN (N.ts.map _) _=_
  rw[h.dimN' (by omega) _ (fun t ht=>ht),if_pos (by rw[outL,Bool.not_eq_true',aI];exact hnd)]
 have e:slcB (slK N L V k) (L.getD k 0) (V.getD k 0)=true:=by
  simp only[slcB,Bool.and_eq_true,decide_eq_true_eq];refine⟨hok,hv.1, ?_⟩;rw[rj hok,hdm];exact hv.2
 refine⟨e, ?_⟩;unfold slcN;rw[e];simp only[cond_true,GL,slK,List.map_map,List.filter_filter]
 congr 1
 refine List.filter_congr fun x _=> ?_
 rw[yY hk,Bool.and_comm]
end
theorem wU{os os' F:List Int}{s s':Osd}(hg:s.gone=s'.gone)(hl:s.all.length=s'.all.length):∀k,(bj os F s k).2=(bj os' F s' k).2∧(bj os F s k).1.gone=(bj os' F s' k).1.gone∧(bj os F s k).1.all.length=(bj os' F s' k).1.all.length
 |0=>⟨rfl,hg,hl⟩
 |k+1=>by
  obtain⟨h1,h2,h3⟩:=wU (os:=os) (os':=os') (F:=F) hg hl k;have hn:(bj os F s k).1.nums=(bj os' F s' k).1.nums:=by
   unfold Osd.nums;rw[h3];refine List.filter_congr fun i _=> ?_
   unfold Osd.alive;rw[h2]
  have hf:∀x y,dj (bj os F s k).1 x y=dj (bj os' F s' k).1 x y:=fun x y=>by
   unfold dj;rw[hn]
  rw[bj,bj, ← h1, ← hf];split
  ·refine⟨rfl, ?_, ?_⟩
   ·simp only[Osd.step,h2]
   ·simp only[Osd.step,List.length_append,h3,Zl,zn]
  ·exact⟨rfl,h2,h3⟩
theorem SlV.order{N:Net}{L V F:List Int}{n:Nat}(h:SlV N L V){k:Nat}(hk:k≤L.length)(ho:bo N n F=true):bo (slK N L V k) n F=true:=by
 obtain⟨_,h2,h3⟩:=bc.1 ho;refine bc.2 ⟨h.netOk hk,by rw[vY];exact h2, ?_⟩;rw[← h3]
 refine(wU ?_ ?_ n).1
 ·simp [bb,slK]
 ·simp [bb,slK]
end Go.Proofs.YtobhmajhachnaaaGreatDoor
