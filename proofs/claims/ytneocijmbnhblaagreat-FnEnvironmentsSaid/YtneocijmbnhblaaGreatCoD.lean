/-
 Contracts: strides, sums of products, the next index, the index at an offset. No condition.
-/
import Derived.Test.YtneocijmbnhblaaGreatCoC
import Derived.Test.YtneocijmbnhblaaGreatLift28
import Derived.Test.YtneocijmbnhblaaGreatCoB
set_option linter.unusedSimpArgs false
set_option linter.unusedVariables false
namespace Go.Proofs.YtneocijmbnhblaaGreat
open Go.RowKit Go.Lift Plain
set_option maxRecDepth 100000
theorem xH (z:List AV):Go.Lift.cH 1 z=z:=by simp [Go.Lift.cH]
theorem vH (z:List AV):Go.Lift.cH 0 z=[]:=by simp [Go.Lift.cH]
attribute [go_sem high] vH xH
theorem sv {a b:List Int} {k:Nat} (ha:k<a.length) (hb:k<b.length):dotI (a.take (k+1)) (b.take (k+1))=dotI (a.take k) (b.take k)+a.getD k 0*b.getD k 0:=by
 rw[bm ha,bm hb,sw _ _ _ _ (by simp;omega),ao ha,ao hb]
theorem xz {a b:List Int} (hl:a.length≤b.length) (h:∀ k,k<a.length→0≤a.getD k 0*b.getD k 0∧a.getD k 0*b.getD k 0≤16777216):
  ∀ k,k≤a.length→0≤dotI (a.take k) (b.take k)∧dotI (a.take k) (b.take k)≤16777216*k
 | 0,_=>by simp [dotI]
 | k+1,hk=>by
  have:=xz hl h k (by omega)
  have:=h k (by omega)
  rw[sv (by omega) (by omega)]
  push_cast
  omega
theorem py {a b:List Int} (hl:a.length=b.length) (hn:a.length≤1048576) (h:∀ k,k<a.length→0≤a.getD k 0*b.getD k 0∧a.getD k 0*b.getD k 0≤16777216):
  Does Tryz.prog 90 [.d (ints a),.d (ints b)] [] (.d (.int (dotI a b))) []:=by
 have hbd:=xz (Nat.le_of_eq hl) h
 (refine spec_of (by kernel_rfl) Tryz.func90 tp (fnOk (nb rfl) ?_);unfold C_impl_dotOf)
 (simp only[Nat.reduceSub,List.length_cons,List.length_nil,Nat.reduceAdd,am,al,aj,ai,ah,af,ae,ac];try simp only[au]);(simp only[go_sem,seval,reduceCtorEq,List.replicate])
 refine aZ (a.length) (mkB 25 16776256) (fun k=>[(5,.d (.int (dotI (a.take k) (b.take k)))),(9,.d (.int k))]) (fun k=>[]) (h1:=by first | (simp only[go_sem,seval,reduceCtorEq,nz,na,n1,List.take_zero,dotI];first | done | rfl) | rfl) (h2:=by first | (simp only[go_sem,seval,reduceCtorEq,nz,na,n1,List.take_zero,dotI];first | done | rfl) | rfl) (hr:=fun k hk=> ?_)
 unfold L0_impl_dotOf
 have hb0:=hbd k hk
 by_cases hlt:k<a.length
 ·have h1:(k:Int)<a.length:=by omega
  have h2:(k:Int)<b.length:=by omega
  have ha:a[k]? =some (a.getD k 0):=by rw[ao hlt];exact List.getElem?_eq_getElem hlt
  have hb:b[k]? =some (b.getD k 0):=by rw[ao (by omega)];exact List.getElem?_eq_getElem (by omega)
  have hk1:=h k hlt
  have hs:=sv hlt (show k<b.length by omega)
  simp(disch:=omega) only[go_sem,seval,reduceCtorEq,h1,h2,ha,hb]
  (refine Next.drop (mkB 25 16776256) (by omega) (h1:= ?_) (h2:= ?_)<;>first | (simp only[go_sem,seval,reduceCtorEq,nz,na,n1,hs];first | done | rfl) | rfl | skip)
 ·have h1:¬ (k:Int)<a.length:=by omega
  have e1:a.take k=a:=List.take_of_length_le (by omega)
  have e2:b.take k=b:=List.take_of_length_le (by omega)
  simp(disch:=omega) only[go_sem,seval,reduceCtorEq,h1,e1,e2]
  (refine FnEnd.mk (nb rfl) rfl (of_decide_eq_true rfl) ?_ ?_<;>try simp only[go_sem,seval,reduceCtorEq])
theorem gK {t:Ten} {L:List Int} (ha:axOk t.labels t.dims) (hp:ab t.dims≤4096) (hL:L.length≤1048576):
  Does Tryz.prog 88 [tenA t,.d (ints L)] [] (.own 0 0 L.length) [some ⟨1,true,iv (L.map (aw t.labels t.dims))⟩]:=by
 have l1:=ha.1
 have l2:=ha.len
 have hdm:=ha.dim
 generalize hls:t.labels=ls at*
 generalize hds:t.dims=ds at*
 have hstep:∀ i,1≤ab (ds.drop i)∧ab (ds.drop i)≤4096:=fun i=>by
  have h1:=bi (ds.drop i) (fun d hd=>(hdm d (List.mem_of_mem_drop hd)).1)
  have h2:=bi (ds.take i) (fun d hd=>(hdm d (List.mem_of_mem_take hd)).1)
  have h3:=dJ (ds.take i) (ds.drop i)
  rw[List.take_append_drop]at h3
  have h4:ab (ds.drop i)≤ab (ds.take i)*ab (ds.drop i):=by
   have:=Int.mul_le_mul_of_nonneg_right h2 (show 0≤ab (ds.drop i)by omega)
   omega
  omega
 (refine spec_of (by kernel_rfl) Tryz.func88 nI (fnOk (nb rfl) ?_);unfold C_impl_stridesOf)
 (simp only[Nat.reduceSub,List.length_cons,List.length_nil,Nat.reduceAdd,am,al,aj,ai,ah,af,ae,ac];try simp only[au]);(simp only[go_sem,seval,reduceCtorEq,List.replicate])
 simp only[hls,hds]
 refine⟨by omega, ?_⟩
 simp(disch:=omega) only[go_sem,seval,reduceCtorEq,hls,hds]
 have h00:L.map (aw (ls.drop (ds.length-0)) (ds.drop (ds.length-0)))=List.replicate L.length 0:=by
  have:ls.drop (ds.length-0)=[]:=List.drop_eq_nil_of_le (by omega)
  rw[this]
  refine List.ext_getElem (by simp) fun i h1 h2=> ?_
  simp [aw]
 have h01:ab (ds.drop (ds.length-0))=1:=by
  have:ds.drop (ds.length-0)=[]:=List.drop_eq_nil_of_le (by omega)
  rw[this];rfl
 refine aZ (ds.length) (mkB 48 140737488225024) (fun k=>[(6,.d (.int (ab (ds.drop (ds.length-k))))),(7,.d (.int (ds.length-1-k)))]) (fun k=>[(1,iv (L.map (aw (ls.drop (ds.length-k)) (ds.drop (ds.length-k)))))]) (h1:=by first | (simp only[go_sem,seval,reduceCtorEq,nz,na,n1,h00,h01,Int.sub_zero];first | done | rfl) | rfl) (h2:=by first | (simp only[go_sem,seval,reduceCtorEq,nz,na,n1,h00,h01,Int.sub_zero];first | done | rfl) | rfl) (hr:=fun k hk=> ?_)
 unfold L1_impl_stridesOf
 by_cases hlt:k<ds.length
 ·obtain⟨i,hi⟩:∃ i,ds.length=k+1+i:=⟨ds.length-k-1,by omega⟩
  have e7:(ds.length:Int)-1-k=i:=by omega
  have e8:ds.length-k=i+1:=by omega
  have c1:(0:Int)≤i:=by omega
  have c1':(i:Int)≥0:=by omega
  rw[e8]
  simp only[go_sem,seval,reduceCtorEq,e7,c1']
  have hil:i<ls.length:=by omega
  have hid:i<ds.length:=by omega
  have c2:(i:Int)<ls.length:=by omega
  have c3:(i:Int)<ds.length:=by omega
  have gl:ls[i]? =some ls[i]:=List.getElem?_eq_getElem hil
  have gd:ds[i]? =some ds[i]:=List.getElem?_eq_getElem hid
  have el:ls.drop i=ls[i] :: ls.drop (i+1):=List.drop_eq_getElem_cons hil
  have ed:ds.drop i=ds[i] :: ds.drop (i+1):=List.drop_eq_getElem_cons hid
  have hst:∀ x,aw (ls.drop i) (ds.drop i) x=if x=ls[i] then ab (ds.drop (i+1)) else aw (ls.drop (i+1)) (ds.drop (i+1)) x:=fun x=>by rw[el,ed,aw]
  have hpr:ab (ds.drop (i+1))*ds[i]=ab (ds.drop i):=by rw[ed,bo,Int.mul_comm]
  have hsi:=hstep i
  have hml:(L.map (aw (ls.drop i) (ds.drop i))).length=(L.map (aw (ls.drop (i+1)) (ds.drop (i+1)))).length:=by simp
  refine aZ (L.length) (mkB 48 1099494851328) (fun j=>[(23,.d (.int j))]) (fun j=>[(1,iv (mix (L.map (aw (ls.drop i) (ds.drop i))) (L.map (aw (ls.drop (i+1)) (ds.drop (i+1)))) j))]) (h1:=by first | (simp only[go_sem,seval,reduceCtorEq,nz,na,n1,cy];first | done | rfl) | rfl) (h2:=by first | (simp only[go_sem,seval,reduceCtorEq,nz,na,n1,cy];first | done | rfl) | rfl) (hr:=fun j hj=> ?_)
  unfold L0_impl_stridesOf
  by_cases hltj:j<L.length
  ·have h1:(j:Int)<L.length:=by omega
   have gL:L[j]? =some L[j]:=List.getElem?_eq_getElem hltj
   have hmx:(L.map (aw (ls.drop i) (ds.drop i)))[j]? =some (aw (ls.drop i) (ds.drop i) L[j]):=by simp [hltj]
   have hmn:=fH hml hmx
   have hlen:(mix (L.map (aw (ls.drop i) (ds.drop i))) (L.map (aw (ls.drop (i+1)) (ds.drop (i+1)))) j).length=L.length:=by rw[gR hml];simp
   by_cases hx:L[j]=ls[i]
   ·have hxe:(L[j]==ls[i])=true:=by simp [hx]
    have hv:=hst L[j]
    rw[if_pos hx]at hv
    simp(disch:=omega) only[go_sem,seval,reduceCtorEq,h1,gL,gl,c1,c2,hxe]
    refine⟨by rw[hlen];omega, ?_⟩
    rw[hv]at hmn
    (refine Next.drop (mkB 48 1099494851328) (by omega) (h1:= ?_) (h2:= ?_)<;>first | (simp only[go_sem,seval,reduceCtorEq,nz,na,n1,hmn];first | done | rfl) | rfl | skip)
   ·have hxe:(L[j]==ls[i])=false:=by simp [hx]
    have hv:=hst L[j]
    rw[if_neg hx]at hv
    have e2:mix (L.map (aw (ls.drop i) (ds.drop i))) (L.map (aw (ls.drop (i+1)) (ds.drop (i+1)))) (j+1)=mix (L.map (aw (ls.drop i) (ds.drop i))) (L.map (aw (ls.drop (i+1)) (ds.drop (i+1)))) j:=by
     rw[← hmn,cI (by rw[hlen];omega)]
     refine List.ext_getElem? fun q=> ?_
     rw[List.getElem?_set]
     split
     ·rename_i hq
      subst hq
      rw[if_pos (by rw[hlen];omega),xi hml,if_neg (Nat.lt_irrefl _),hv]
      simp [hltj]
     ·rfl
    simp(disch:=omega) only[go_sem,seval,reduceCtorEq,h1,gL,gl,c1,c2,hxe]
    (refine Next.drop (mkB 48 1099494851328) (by omega) (h1:= ?_) (h2:= ?_)<;>first | (simp only[go_sem,seval,reduceCtorEq,nz,na,n1,e2];first | done | rfl) | rfl | skip)
  ·have h1:¬ (j:Int)<L.length:=by omega
   have hf:mix (L.map (aw (ls.drop i) (ds.drop i))) (L.map (aw (ls.drop (i+1)) (ds.drop (i+1)))) j=L.map (aw (ls.drop i) (ds.drop i)):=gt (by simp;omega) (by simp;omega)
   have e9:ds.length-(k+1)=i:=by omega
   have e10:(ds.length:Int)-1-(↑k+1)=i-1:=by omega
   simp(disch:=omega) only[go_sem,seval,reduceCtorEq,h1,c1,c3,gd,hf,hpr]
   (refine Next.drop (mkB 48 140737488225024) (by omega) (h1:= ?_) (h2:= ?_)<;>first | (simp only[go_sem,seval,reduceCtorEq,nz,na,n1,e9,e10];first | done | rfl) | rfl | skip)
 ·have hk':k=ds.length:=by omega
  have c1:¬ (ds.length:Int)-1-k≥0:=by omega
  have e0:ds.length-k=0:=by omega
  simp(disch:=omega) only[go_sem,seval,reduceCtorEq,c1,e0]
  (refine FnEnd.mk (nb rfl) rfl (of_decide_eq_true rfl) ?_ ?_<;>try simp only[go_sem,seval,reduceCtorEq])
theorem oy {ds:List Int} {n:Int} (hd:∀ d∈ds,1≤d∧d≤1000) (hl:ds.length≤1048576) (h0:0≤n):
  Does Tryz.prog 91 [.d (ints ds),.own 0 0 ds.length] [some ⟨1,false,iv (an ds n)⟩] (.d (.bool (decide ((n+1) % ab ds≠0)))) [some ⟨1,false,iv (an ds (n+1))⟩]:=by
 have hd1:∀ d∈ds,1≤d:=fun d h=>(hd d h).1
 have hdl:=bg ds n
 have hdl1:=bg ds (n+1)
 (refine spec_of (by kernel_rfl) Tryz.func91 nL (fnOk (nb rfl) ?_);unfold C_impl_nextIndex)
 (simp only[Nat.reduceSub,List.length_cons,List.length_nil,Nat.reduceAdd,am,al,aj,ai,ah,af,ae,ac];try simp only[au]);(simp only[go_sem,seval,reduceCtorEq,List.replicate])
 simp(disch:=omega) only[go_sem,seval,reduceCtorEq]
 have hz:(an ds n).take (ds.length-0)++(an ds (n+1)).drop (ds.length-0)=an ds n:=by
  rw[Nat.sub_zero,List.take_of_length_le (by omega),List.drop_eq_nil_of_le (by omega),List.append_nil]
 refine cP (ds.length) (mkB 31 2147483152) (fun k=>(n+1) % ab (ds.drop (ds.length-k))=0) (fun k=>[(5,.d (.int (ds.length-1-k)))]) (fun k=>[(0,iv ((an ds n).take (ds.length-k)++(an ds (n+1)).drop (ds.length-k)))]) (hi:=by simp [ab,Int.emod_one]) (h1:=by first | (simp only[go_sem,seval,reduceCtorEq,nz,na,n1,hz,Int.sub_zero];first | done | rfl) | rfl) (h2:=by first | (simp only[go_sem,seval,reduceCtorEq,nz,na,n1,hz,Int.sub_zero];first | done | rfl) | rfl) (hr:=fun k hk hi=> ?_)
 unfold L0_impl_nextIndex
 by_cases hlt:k<ds.length
 ·obtain⟨i,hik⟩:∃ i,ds.length=k+1+i:=⟨ds.length-k-1,by omega⟩
  have e7:(ds.length:Int)-1-k=i:=by omega
  have e8:ds.length-k=i+1:=by omega
  have c1:(i:Int)≥0:=by omega
  have hid:i<ds.length:=by omega
  have c3:(i:Int)<ds.length:=by omega
  rw[e8]at hi ⊢
  have hst:=vC hd1 hid hi
  have hkeep:=oI ds n i hd1
  have gd:ds[i]? =some (ds.getD i 0):=by rw[ao hid];exact List.getElem?_eq_getElem hid
  have hdi:=hd ds[i] (List.getElem_mem hid)
  rw[← ao hid]at hdi
  have hbd:=fq ds n hd1 i hid
  have hCl:((an ds n).take (i+1)++(an ds (n+1)).drop (i+1)).length=ds.length:=by simp;omega
  have hCi:((an ds n).take (i+1)++(an ds (n+1)).drop (i+1))[i]? =some ((an ds n).getD i 0):=by
   rw[List.getElem?_append_left (by simp;omega),List.getElem?_take,if_pos (by omega),ao (by omega)];exact List.getElem?_eq_getElem (by omega)
  have hCs:∀ v,((an ds n).take (i+1)++(an ds (n+1)).drop (i+1)).set i v=(an ds n).take i++v :: (an ds (n+1)).drop (i+1):=fun v=>by
   rw[← cI (by omega)]
   have h1:((an ds n).take (i+1)++(an ds (n+1)).drop (i+1)).take i=(an ds n).take i:=by
    rw[List.take_append_of_le_length (by simp;omega),List.take_take,Nat.min_eq_left (by omega)]
   have h2:((an ds n).take (i+1)++(an ds (n+1)).drop (i+1)).drop (i+1)=(an ds (n+1)).drop (i+1):=by
    rw[List.drop_append_of_le_length (by simp;omega),List.drop_eq_nil_of_le (by simp;omega),List.nil_append]
   rw[h1,h2,List.append_assoc];rfl
  generalize (an ds n).take (i+1)++(an ds (n+1)).drop (i+1)=C at*
  have hput:∀ v:Int,C.take i++[v]++C.drop (i+1)=C.set i v:=fun v=>cI (by omega)
  have hput2:∀ v w:Int,(C.set i v).take i++[w]++(C.set i v).drop (i+1)=C.set i w:=fun v w=>by rw[cI (by simp;omega),List.set_set]
  have hget:∀ v:Int,(C.set i v)[i]? =some v:=fun v=>by rw[List.getElem?_set,if_pos rfl,if_pos (by omega)]
  have hcl:i+1≤C.length:=by omega
  have hsp:(an ds (n+1)).drop i=(an ds (n+1)).getD i 0 :: (an ds (n+1)).drop (i+1):=by rw[ao (by omega)];exact List.drop_eq_getElem_cons (by omega)
  simp(disch:=omega) only[go_sem,seval,reduceCtorEq,e7,c1,c3,gd,hCi,hput,hget,hput2,hcl,List.length_set]
  by_cases h3:(an ds n).getD i 0+1<ds.getD i 0
  ·obtain⟨h4,h5⟩:=hst.1 h3
   have hne:(n+1) % ab ds≠0:=by
    intro e
    refine h4 ?_
    have hdvd:ab (ds.drop i) ∣ ab ds:=by
     have:=dJ (ds.take i) (ds.drop i)
     rw[List.take_append_drop]at this
     rw[this]
     exact Int.dvd_mul_left _ _
    exact Int.emod_eq_zero_of_dvd (Int.dvd_trans hdvd (Int.dvd_of_emod_eq_zero e))
   have hfin:C.set i ((an ds n).getD i 0+1)=an ds (n+1):=by
    rw[hCs, ← hkeep h4 (by omega), ← h5, ← hsp,List.take_append_drop]
   simp(disch:=omega) only[go_sem,seval,reduceCtorEq,h3,hfin]
   (refine FnEnd.mk (nb rfl) rfl (of_decide_eq_true rfl) ?_ ?_<;>try simp only[go_sem,seval,reduceCtorEq])
   rw[decide_eq_true hne]
  ·obtain⟨h4,h5⟩:=hst.2 h3
   have e9:ds.length-(k+1)=i:=by omega
   have e10:(ds.length:Int)-1-(↑k+1)=i-1:=by omega
   rw[h5]at hsp
   simp(disch:=omega) only[go_sem,seval,reduceCtorEq,h3]
   have hI:(n+1) % ab (ds.drop (ds.length-(k+1)))=0:=by rw[e9];exact h4
   refine⟨c3,by simp;omega, ?_⟩
   have hf0:∀ v:Int,(C.set i v).take i++[0]++(C.set i v).drop (i+1)=(an ds n).take i++(an ds (n+1)).drop i:=fun v=>by rw[hput2,hCs, ← hsp]
   (refine NextI.drop (mkB 31 2147483152) (by omega) (hI) (h1:= ?_) (h2:= ?_)<;>first | (simp only[go_sem,seval,reduceCtorEq,nz,na,n1,e9,e10,hf0];first | done | rfl) | rfl | skip)
 ·have hk':ds.length-k=0:=by omega
  have c1:¬ (ds.length:Int)-1-k≥0:=by omega
  rw[hk']at hi ⊢
  simp(disch:=omega) only[go_sem,seval,reduceCtorEq,c1]
  (refine FnEnd.mk (nb rfl) rfl (of_decide_eq_true rfl) ?_ ?_<;>try simp only[go_sem,seval,reduceCtorEq])
  have:(n+1) % ab ds=0:=hi
  rw[this];rfl
theorem qd {ds:List Int} {n:Int} (hd:∀ d∈ds,1≤d∧d≤1000) (hl:ds.length≤1048576) (h0:0≤n∧n≤1152921504606846976):
  Does Tryz.prog 82 [.d (ints ds),.d (.int n)] [] (.own 0 0 ds.length) [some ⟨1,true,iv (an ds n)⟩]:=by
 have hd1:∀ d∈ds,1≤d:=fun d h=>(hd d h).1
 have hdl:=bg ds n
 have hpp:∀ i,1≤ab (ds.drop i):=fun i=>bi _ (fun d h=>hd1 d (List.mem_of_mem_drop h))
 (refine spec_of (by kernel_rfl) Tryz.func82 oR (fnOk (nb rfl) ?_);unfold C_spec_l05Index)
 (simp only[Nat.reduceSub,List.length_cons,List.length_nil,Nat.reduceAdd,am,al,aj,ai,ah,af,ae,ac];try simp only[au]);(simp only[go_sem,seval,reduceCtorEq,List.replicate])
 refine⟨by omega, ?_⟩
 simp(disch:=omega) only[go_sem,seval,reduceCtorEq]
 have hz:(List.replicate ds.length (0:Int)).take (ds.length-0)++(an ds n).drop (ds.length-0)=List.replicate ds.length 0:=by
  rw[Nat.sub_zero,List.take_of_length_le (by simp),List.drop_eq_nil_of_le (by omega),List.append_nil]
 have hz2:n / ab (ds.drop (ds.length-0))=n:=by simp [ab]
 refine aZ (ds.length) (mkB 33 4294959104) (fun k=>[(1,.d (.int (n / ab (ds.drop (ds.length-k))))),(6,.d (.int (ds.length-1-k)))]) (fun k=>[(0,iv ((List.replicate ds.length (0:Int)).take (ds.length-k)++(an ds n).drop (ds.length-k)))]) (h1:=by first | (simp only[go_sem,seval,reduceCtorEq,nz,na,n1,hz,hz2,Int.sub_zero];first | done | rfl) | rfl) (h2:=by first | (simp only[go_sem,seval,reduceCtorEq,nz,na,n1,hz,hz2,Int.sub_zero];first | done | rfl) | rfl) (hr:=fun k hk=> ?_)
 unfold L0_spec_l05Index
 by_cases hlt:k<ds.length
 ·obtain⟨i,hik⟩:∃ i,ds.length=k+1+i:=⟨ds.length-k-1,by omega⟩
  have e7:(ds.length:Int)-1-k=i:=by omega
  have e8:ds.length-k=i+1:=by omega
  have c1:(i:Int)≥0:=by omega
  have hid:i<ds.length:=by omega
  have c3:(i:Int)<ds.length:=by omega
  rw[e8]
  have gd:ds[i]? =some ds[i]:=List.getElem?_eq_getElem hid
  have hdi:=hd ds[i] (List.getElem_mem hid)
  have hne:ds[i]≠0:=by omega
  have hP:=hpp (i+1)
  have hq:0≤n / ab (ds.drop (i+1)):=Int.ediv_nonneg h0.1 (by omega)
  have hqb:n / ab (ds.drop (i+1))≤n:=Int.ediv_le_self _ h0.1
  have hdg:(n / ab (ds.drop (i+1))).tmod ds[i]=(an ds n).getD i 0:=by rw[tm hq,jg _ _ _ hid,oK,ao hid]
  have hdv:(n / ab (ds.drop (i+1))).tdiv ds[i]=n / ab (ds.drop i):=by
   rw[Int.tdiv_eq_ediv_of_nonneg hq, ← y5 ds n i hid hd1,ao hid]
  have hdvb:0≤n / ab (ds.drop i):=Int.ediv_nonneg h0.1 (by have:=hpp i;omega)
  have hdvc:n / ab (ds.drop i)≤n:=Int.ediv_le_self _ h0.1
  have hCl:((List.replicate ds.length (0:Int)).take (i+1)++(an ds n).drop (i+1)).length=ds.length:=by simp;omega
  have hCs:((List.replicate ds.length (0:Int)).take (i+1)++(an ds n).drop (i+1)).take i++[(an ds n).getD i 0]++((List.replicate ds.length (0:Int)).take (i+1)++(an ds n).drop (i+1)).drop (i+1)=(List.replicate ds.length (0:Int)).take i++(an ds n).drop i:=by
   have h1:((List.replicate ds.length (0:Int)).take (i+1)++(an ds n).drop (i+1)).take i=(List.replicate ds.length (0:Int)).take i:=by
    rw[List.take_append_of_le_length (by simp;omega),List.take_take,Nat.min_eq_left (by omega)]
   have h2:((List.replicate ds.length (0:Int)).take (i+1)++(an ds n).drop (i+1)).drop (i+1)=(an ds n).drop (i+1):=by
    rw[List.drop_append_of_le_length (by simp;omega),List.drop_eq_nil_of_le (by simp;omega),List.nil_append]
   rw[h1,h2,List.append_assoc,ao (by omega),List.singleton_append, ← List.drop_eq_getElem_cons]
  generalize (List.replicate ds.length (0:Int)).take (i+1)++(an ds n).drop (i+1)=C at*
  have hcl:i+1≤C.length:=by omega
  have e9:ds.length-(k+1)=i:=by omega
  have e10:(ds.length:Int)-1-(↑k+1)=i-1:=by omega
  simp(disch:=omega) only[go_sem,seval,reduceCtorEq,e7,c1,c3,gd,hne,hdg,hdv,hcl,ne_eq,not_false_eq_true]
  (refine Next.drop (mkB 33 4294959104) (by omega) (h1:= ?_) (h2:= ?_)<;>first | (simp only[go_sem,seval,reduceCtorEq,nz,na,n1,e9,e10,hCs];first | done | rfl) | rfl | skip)
 ·have hk':ds.length-k=0:=by omega
  have c1:¬ (ds.length:Int)-1-k≥0:=by omega
  rw[hk']
  simp(disch:=omega) only[go_sem,seval,reduceCtorEq,c1]
  (refine FnEnd.mk (nb rfl) rfl (of_decide_eq_true rfl) ?_ ?_<;>try simp only[go_sem,seval,reduceCtorEq])
set_option maxRecDepth 100000
def aG (t:Ten) (L:List Int):List Int:=L.map (aE t)
def bB (t:Ten) (L:List Int) (i:Nat):Nat:=(dotI (L.map (aw t.labels t.dims)) (an (aG t L) i)).toNat
def dE (t:Ten) (L:List Int):Nat:=(ab (aG t L)).toNat
def bz (wd:Nat) (t:Ten) (L:List Int):Ten:=⟨L,aG t L,gath t.data wd (bB t L) (dE t L)⟩
structure PermOk (t:Ten) (L:List Int) (wd n:Nat):Prop where
 ax:axOk t.labels t.dims
 pn:ab t.dims=n
 n1:1≤n∧n≤4096
 w1:1≤wd∧wd≤6
 dl:t.data.length=n*wd
 same:gM t.labels L=true
namespace PermOk
variable {t : Ten} {L : List Int} {wd n : Nat}
theorem len (h:PermOk t L wd n):L.length=t.labels.length:=(of_decide_eq_true h.same).1
theorem sub (h:PermOk t L wd n):∀ x∈L,x∈t.labels:=fun x hx=>by
 obtain⟨k,hk,rfl⟩:=List.mem_iff_getElem.1 hx
 exact((of_decide_eq_true h.same).2 k hk).1
theorem nodup (h:PermOk t L wd n):L.Nodup:=gn fun k hk=>((of_decide_eq_true h.same).2 k hk).2
theorem sup (h:PermOk t L wd n):∀ x∈t.labels,x∈L:=pG h.nodup h.sub (Nat.le_of_eq h.len.symm)
theorem len12 (h:PermOk t L wd n):L.length≤12:=by have:=h.len;have:=h.ax.1;omega
theorem dbd (h:PermOk t L wd n):∀ d∈aG t L,1≤d∧d≤8:=fun d hd=>by
 simp only[aG,List.mem_map]at hd
 obtain⟨x,hx,rfl⟩:=hd
 exact cJ h.ax (h.sub x hx)
theorem pbd (h:PermOk t L wd n):1≤ab (aG t L)∧ab (aG t L)≤n:=by
 refine⟨bi _ (fun d hd=>(h.dbd d hd).1), ?_⟩
 have:=m4 (f:=aE t) h.nodup h.sub (fun x hx=>(cJ h.ax hx).1)
 rw[kc h.ax,h.pn]at this
 exact this
theorem pN (h:PermOk t L wd n):ab (aG t L)=dE t L:=by have:=h.pbd;unfold dE;omega
theorem idx (h:PermOk t L wd n) (i:Nat):oC t.dims (t.labels.map (atL L (an (aG t L) i))):=by
 refine⟨by simp [h.ax.len],fun k hk=> ?_⟩
 have hk':k<t.labels.length:=by have:=h.ax.len;omega
 have hm:=h.sup t.labels[k] (List.getElem_mem hk')
 obtain⟨q,h1,h2,h3,h4⟩:=xE (xs:=an (aG t L) i) hm (by simp [bg,aG])
 have h5:=fq (aG t L) i (fun d hd=>(h.dbd d hd).1) q (by simpa [aG]using h1)
 have h6:(aG t L).getD q 0=t.dims.getD k 0:=by
  rw[ao (by simpa [aG]using h1),ao hk]
  have h7:L[q]=t.labels[k]:=by rw[List.getElem?_eq_getElem h1]at h3;simpa using h3
  simp only[aG,List.getElem_map,h7]
  exact fN h.ax hk' hk
 unfold oD
 have h8:(t.labels.map (atL L (an (aG t L) i))).getD k 0=atL L (an (aG t L) i) t.labels[k]:=by rw[ao (by simpa using hk')];simp
 rw[h8,h4, ← h6]
 exact h5
theorem off (h:PermOk t L wd n) (i:Nat):dotI (L.map (aw t.labels t.dims)) (an (aG t L) i)=bB t L i∧bB t L i<n∧offs t.dims (t.labels.map (atL L (an (aG t L) i)))=bB t L i:=by
 have h1:=l9 h.ax.len (bG h.ax) h.nodup h.sup (xs:=an (aG t L) i) (by simp [bg,aG])
 have h2:=xd _ _ _ h.ax (h.idx i)
 have h3:=h.pn
 unfold bB
 rw[h1]
 omega
theorem cut (h:PermOk t L wd n) (i:Nat):bB t L i*wd+wd≤t.data.length:=by
 rw[h.dl];exact dX (h.off i).2.1
theorem dotb (h:PermOk t L wd n) (i k:Nat):0≤(L.map (aw t.labels t.dims)).getD k 0*(an (aG t L) i).getD k 0∧(L.map (aw t.labels t.dims)).getD k 0*(an (aG t L) i).getD k 0≤16777216:=by
 by_cases hk:k<L.length
 ·have h1:=fq (aG t L) i (fun d hd=>(h.dbd d hd).1) k (by simpa [aG]using hk)
  have h2:=h.dbd ((aG t L).getD k 0) (by rw[ao (by simpa [aG]using hk)];exact List.getElem_mem _)
  have h3:=iQ t.labels t.dims L[k] (fun d hd=>(h.ax.dim d hd).1)
  have h4:=h.pn
  have h5:=h.n1
  rw[ao (show k<(L.map (aw t.labels t.dims)).length by simpa using hk),List.getElem_map]
  generalize (an (aG t L) i).getD k 0=x at*
  generalize aw t.labels t.dims L[k]=s at*
  refine⟨Int.mul_nonneg h3.1 h1.1, ?_⟩
  have:s*x≤s*8:=Int.mul_le_mul_of_nonneg_left (by omega) h3.1
  omega
 ·have:(L.map (aw t.labels t.dims)).getD k 0=0:=by simp [List.getD_eq_getElem?_getD,List.getElem?_eq_none (Nat.le_of_not_lt hk)]
  rw[this];simp
end PermOk
theorem lY {kk pp nn:Int} {t:Ten} {L:List Int} {wd n:Nat} (hw:ar ⟨kk,pp,nn⟩=wd) (h:PermOk t L wd n) (hs:TSz 1048576 t) (hL:Sz 1048576 L):
  Does Tryz.prog 93 [bn kk pp nn,tenA t,.d (ints L)] [] (ownT 0 (bz wd t L)) (stoF (bz wd t L)):=by
 have hl12:=h.len12
 have hll:=h.len
 have hal:=h.ax.len
 have hpl:(aG t L).length=L.length:=by simp [aG]
 have hxl:=hs.x.len
 (refine spec_of (by kernel_rfl) Tryz.func93 mt (fnOk (nb rfl) ?_);unfold C_impl_rawPermute)
 (simp only[Nat.reduceSub,List.length_cons,List.length_nil,Nat.reduceAdd,am,al,aj,ai,ah,af,ae,ac];try simp only[au]);(simp only[go_sem,seval,reduceCtorEq,List.replicate])
 (refine aC (cz (xs:=L) (by omega)) ?_ ?_ ?_;(focus (simp only[go_sem,seval,reduceCtorEq];done));(first | rfl | (focus (simp only[go_sem];done))))
 simp(disch:=omega) only[go_sem,seval,reduceCtorEq]
 refine⟨by omega, ?_⟩
 refine aZ (L.length) (mkB 59 137436857088) (fun k=>[(20,.d (.int k))]) (fun k=>[(4,iv (mix (aG t L) (List.replicate L.length 0) k))]) (h1:=by first | (simp only[go_sem,seval,reduceCtorEq,nz,na,n1,cy];first | done | rfl) | rfl) (h2:=by first | (simp only[go_sem,seval,reduceCtorEq,nz,na,n1,cy];first | done | rfl) | rfl) (hr:=fun k hk=> ?_)
 unfold L1_impl_rawPermute
 by_cases hlt:k<L.length
 ·have c1:(k:Int)<L.length:=by omega
  have g:L[k]? =some L[k]:=List.getElem?_eq_getElem hlt
  have hm:=h.sub L[k] (List.getElem_mem hlt)
  obtain⟨i,hi1,hi2,hi3,hi4⟩:=dq hal hm
  have c2:(i:Int)<t.dims.length:=by omega
  have hmx:(aG t L)[k]? =some (aE t L[k]):=by simp [aG,hlt]
  have hmn:=fH (l:=aG t L) (r:=List.replicate L.length 0) (by simp [hpl]) hmx
  have hlen:(mix (aG t L) (List.replicate L.length 0) k).length=L.length:=by rw[gR (by simp [hpl])];exact hpl
  simp(disch:=omega) only[go_sem,seval,reduceCtorEq,c1,g]
  (refine aC (kp (t:=t) (x:=L[k]) hs.l.up.len) ?_ ?_ ?_;(focus (simp only[go_sem,seval,reduceCtorEq];done));(first | rfl | (focus (simp only[go_sem];done))))
  simp(disch:=omega) only[go_sem,seval,reduceCtorEq,hi3,c2,hi4,c1]
  refine⟨by rw[hlen];omega, ?_⟩
  (refine Next.drop (mkB 59 137436857088) (by omega) (h1:= ?_) (h2:= ?_)<;>first | (simp only[go_sem,seval,reduceCtorEq,nz,na,n1,hmn];first | done | rfl) | rfl | skip)
 ·have c1:¬ (k:Int)<L.length:=by omega
  have hf:mix (aG t L) (List.replicate L.length 0) k=aG t L:=gt (by simp;omega) (by omega)
  simp(disch:=omega) only[go_sem,seval,reduceCtorEq,c1,hf]
  have hN:=h.pbd
  have hpn:=h.pn
  have hn1:=h.n1
  (refine aa (gK (t:=t) (L:=L) h.ax (by omega) (by omega)) ?_ ?_ ?_;(focus (simp only[go_sem,seval,reduceCtorEq];done));(first | rfl | (focus (simp only[go_sem];done))))
  simp(disch:=omega) only[go_sem,seval,reduceCtorEq]
  refine⟨by omega, ?_⟩
  (refine cN (Wk.nilS 5 2 1 _ _ _ rfl rfl) ?_;simp only[go_sem,seval,reduceCtorEq])
  have hd0:an (aG t L) 0=List.replicate L.length 0:=by
   refine List.ext_getElem (by simp [bg,hpl]) fun q h1 h2=> ?_
   have h3:q<(aG t L).length:=by simpa [bg]using h1
   have h4:=h.dbd (aG t L)[q] (List.getElem_mem h3)
   have h5:=jg (aG t L) 0 q h3
   rw[ao h1]at h5
   rw[h5]
   simp [oK]
  have hNN:=h.pN
  refine p7 (0) (fun i=>dE t L-i) (mkB 59 576451956210401280) (fun i=>i<dE t L) (fun i=>[]) (fun i=>[(5,[.own 3 0 L.length,.own 4 0 L.length,.own 8 0 (i*wd)]),(7,iv (an (aG t L) (i:Int))),(8,iv (gath t.data wd (bB t L) i))]) (hi:=by omega) (h1:=by first | (simp only[go_sem,seval,reduceCtorEq,nz,na,n1,hd0,gath,Nat.zero_mul];first | done | rfl) | rfl) (h2:=by first | (simp only[go_sem,seval,reduceCtorEq,nz,na,n1,hd0,gath,Nat.zero_mul];first | done | rfl) | rfl) (hr:=fun i hi=> ?_)
  unfold L0_impl_rawPermute
  have hdl:(an (aG t L) i).length=L.length:=by simp [bg,hpl]
  have hdl2:(an (aG t L) (i+1)).length=L.length:=by simp [bg,hpl]
  have ht1:List.take L.length (L.map (aw t.labels t.dims))=L.map (aw t.labels t.dims):=List.take_of_length_le (by simp)
  have ht2:List.take L.length (an (aG t L) i)=an (aG t L) i:=List.take_of_length_le (by omega)
  have ht3:List.take L.length (aG t L)=aG t L:=List.take_of_length_le (by omega)
  have hoff:=(h.off i).1
  have hcut:=h.cut i
  have hst:=dX (wd:=wd) hi
  have hNn:dE t L*wd≤n*wd:=Nat.mul_le_mul_right wd (by omega)
  have hdl3:=h.dl
  have hgl:(gath t.data wd (bB t L) i).length=i*wd:=fK fun q _=>h.cut q
  have hwb:=h.w1
  have hofn:=(h.off i).2.1
  simp only[go_sem,seval,reduceCtorEq]
  (refine aC (py (a:=L.map (aw t.labels t.dims)) (b:=an (aG t L) i) (by simp [hdl]) (by simp;omega) (fun q _=>h.dotb i q)) ?_ ?_ ?_;(focus (simp only[go_sem,seval,reduceCtorEq,ht1,ht2,hdl];done));(first | rfl | (focus (simp only[go_sem];done))))
  simp only[go_sem,seval,reduceCtorEq,hoff]
  (refine aC (kx (t:=t) (x:=bB t L i) hw (by omega) hcut (by omega) (by omega)) ?_ ?_ ?_;(focus (simp only[go_sem,seval,reduceCtorEq];done));(first | rfl | (focus (simp only[go_sem];done))))
  have hcl:=ep hcut
  have hcd:wd≤((t.data.drop (bB t L i*wd)).take wd).length:=by omega
  have htt:List.take wd (List.take wd (List.drop (bB t L i*wd) t.data))=List.take wd (List.drop (bB t L i*wd) t.data):=List.take_of_length_le (by omega)
  simp(disch:=omega) only[go_sem,seval,reduceCtorEq,hcl,hgl,htt]
  refine⟨by omega, ?_⟩
  (refine dU [7] false (oy (ds:=aG t L) (n:=i) (fun d hd=>by have:=h.dbd d hd;omega) (by omega) (by omega)) (of_decide_eq_true rfl) ?_ ?_ ?_ ?_ (of_decide_eq_true rfl) ?_;(focus (simp only[go_sem,seval,reduceCtorEq,hpl,ht3,hdl,hdl2];done));(focus (simp only[go_sem,seval,reduceCtorEq];done));(focus (simp only[go_sem,seval,reduceCtorEq,hpl,ht3,hdl,hdl2];done));(focus (simp only[go_sem,seval,reduceCtorEq];done)))
  by_cases hlast:i+1<dE t L
  ·have hde:decide (((i:Int)+1) % ab (aG t L)≠0)=true:=by
    rw[hNN,Int.emod_eq_of_lt (by omega) (by omega)]
    exact decide_eq_true (by omega)
   simp(disch:=omega) only[go_sem,seval,reduceCtorEq,hde]
   (refine NextS.drop (mkB 59 576451956210401280) (i+1) (by omega) (by omega) (h1:= ?_) (h2:= ?_)<;>first | (simp only[go_sem,seval,reduceCtorEq,nz,na,n1,gath,Nat.add_mul,Nat.one_mul];first | done | rfl) | rfl | skip)
  ·have hde:decide (((i:Int)+1) % ab (aG t L)≠0)=false:=by
    have:(i:Int)+1=dE t L:=by omega
    rw[hNN,this,Int.emod_self]
    rfl
   have hN1:dE t L=i+1:=by omega
   have hst1:(i+1)*wd=i*wd+wd:=by rw[Nat.add_mul,Nat.one_mul]
   have hgl2:(gath t.data wd (bB t L) (i+1)).length=i*wd+wd:=by rw[fK fun q _=>h.cut q,hst1]
   simp(disch:=omega) only[go_sem,seval,reduceCtorEq,hde]
   refine FnEnd.wk Wk.nogA ?_
   (refine FnEnd.mk (nb rfl) rfl (of_decide_eq_true rfl) ?_ ?_<;>try simp only[go_sem,seval,reduceCtorEq])
   rw[gath]at hgl2
   all_goals simp only[bz,hN1,hpl,hgl2,gath]
set_option maxRecDepth 100000
theorem th {kk pp nn:Int} {t:Ten} {L:List Int} {wd n:Nat} (hw:ar ⟨kk,pp,nn⟩=wd) (h:PermOk t L wd n) (hs:TSz 1048576 t) (hL:Sz 1048576 L):
  Does Tryz.prog 36 [bn kk pp nn,tenA t,.d (ints L)] [] (ownT 0 (bz wd t L)) (stoF (bz wd t L)):=by
 have hl12:=h.len12
 have hll:=h.len
 have hal:=h.ax.len
 have hpl:(aG t L).length=L.length:=by simp [aG]
 have hxl:=hs.x.len
 (refine spec_of (by kernel_rfl) Tryz.func36 mn (fnOk (nb rfl) ?_);unfold C_spec_l06Permute)
 (simp only[Nat.reduceSub,List.length_cons,List.length_nil,Nat.reduceAdd,am,al,aj,ai,ah,af,ae,ac];try simp only[au]);(simp only[go_sem,seval,reduceCtorEq,List.replicate])
 have hpt:∀ k,k<L.length→(aG t L).take (k+1)=(aG t L).take k++[aE t (L.getD k 0)]:=fun k hk=>by
  rw[bm (by omega),ao hk];simp [aG]
 have hat:∀ k,k<L.length→(L.map (place t.labels)).take (k+1)=(L.map (place t.labels)).take k++[place t.labels (L.getD k 0)]:=fun k hk=>by
  rw[bm (by simpa using hk),ao hk];simp
 refine aZ (L.length) (mkB 84 4398042713088) (fun k=>[(7,.own 3 0 k),(8,.own 4 0 k),(21,.d (.int k))]) (fun k=>[(3,iv ((aG t L).take k)),(4,iv ((L.map (place t.labels)).take k))]) (h1:=by first | (simp only[go_sem,seval,reduceCtorEq,nz,na,n1,List.take_zero,bL];first | done | rfl) | rfl) (h2:=by first | (simp only[go_sem,seval,reduceCtorEq,nz,na,n1,List.take_zero,bL];first | done | rfl) | rfl) (hr:=fun k hk=> ?_)
 unfold L2_spec_l06Permute
 by_cases hlt:k<L.length
 ·have c1:(k:Int)<L.length:=by omega
  have g:L[k]? =some (L.getD k 0):=by rw[ao hlt];exact List.getElem?_eq_getElem hlt
  have hm:=h.sub L[k] (List.getElem_mem hlt)
  rw[← ao hlt]at hm
  obtain⟨i,hi1,hi2,hi3,hi4⟩:=dq hal hm
  have c2:(i:Int)<t.dims.length:=by omega
  have l1:((aG t L).take k).length=k:=by simp;omega
  have l2:((L.map (place t.labels)).take k).length=k:=by simp;omega
  simp(disch:=omega) only[go_sem,seval,reduceCtorEq,c1,g]
  (refine aa (fZ (xs:=t.labels) (x:=L.getD k 0) hs.l.up.len) ?_ ?_ ?_;(focus (simp only[go_sem,seval,reduceCtorEq];done));(first | rfl | (focus (simp only[go_sem];done))))
  simp(disch:=omega) only[go_sem,seval,reduceCtorEq,hi3,c2,hi4,c1,l1,l2]
  refine⟨by omega,by omega, ?_⟩
  have hd1:=hpt k hlt
  have ha1:=hat k hlt
  rw[hi3]at ha1
  (refine Next.drop (mkB 84 4398042713088) (by omega) (h1:= ?_) (h2:= ?_)<;>first | (simp only[go_sem,seval,reduceCtorEq,nz,na,n1,hd1,ha1];first | done | rfl) | rfl | skip)
 ·have c1:¬ (k:Int)<L.length:=by omega
  have f1:(aG t L).take k=aG t L:=List.take_of_length_le (by omega)
  have f2:(L.map (place t.labels)).take k=L.map (place t.labels):=List.take_of_length_le (by simp;omega)
  have hkl:k=L.length:=by omega
  subst hkl
  simp(disch:=omega) only[go_sem,seval,reduceCtorEq,c1,f1,f2]
  (refine aa (iw (xs:=L) (by omega)) ?_ ?_ ?_;(focus (simp only[go_sem,seval,reduceCtorEq];done));(first | rfl | (focus (simp only[go_sem];done))))
  simp(disch:=omega) only[go_sem,seval,reduceCtorEq]
  refine⟨by omega, ?_⟩
  (refine cN (Wk.nilS 6 2 1 _ _ _ rfl rfl) ?_;simp only[go_sem,seval,reduceCtorEq])
  have hNN:=h.pN
  have hN:=h.pbd
  have hn1:=h.n1
  have hwb:=h.w1
  have hNn:dE t L*wd≤n*wd:=Nat.mul_le_mul_right wd (by omega)
  have hdl3:=h.dl
  have htp:List.take L.length (aG t L)=aG t L:=List.take_of_length_le (by omega)
  generalize hX:(fun i:Nat=>if i=0 then List.replicate L.length 0 else t.labels.map (atL L (an (aG t L) ((i-1:Nat):Int))))=X
  have hX0:X 0=List.replicate L.length 0:=by rw[← hX];rfl
  have hXs:∀ i,X (i+1)=t.labels.map (atL L (an (aG t L) i)):=fun i=>by rw[← hX];simp
  have hXl:∀ i,(X i).length=t.labels.length:=fun i=>by rw[← hX];simp only;split<;>simp [hll]
  refine aZ (dE t L) (mkB 84 9671406556354083444326400) (fun i=>[(14,.d (.int i))]) (fun i=>[(6,[.own 5 0 L.length,.own 3 0 L.length,.own 8 0 (i*wd)]),(7,iv (X i)),(8,iv (gath t.data wd (bB t L) i))]) (h1:=by first | (simp only[go_sem,seval,reduceCtorEq,nz,na,n1,hX0,gath,Nat.zero_mul,bL];first | done | rfl) | rfl) (h2:=by first | (simp only[go_sem,seval,reduceCtorEq,nz,na,n1,hX0,gath,Nat.zero_mul,bL];first | done | rfl) | rfl) (hr:=fun i hi=> ?_)
  unfold L1_spec_l06Permute
  simp only[go_sem,seval,reduceCtorEq]
  (refine aa (dM (ds:=aG t L) (lim:=4096) (by omega) (fun d hd=>by have:=h.dbd d hd;omega) (by omega)) ?_ ?_ ?_;(focus (simp only[go_sem,seval,reduceCtorEq,hpl,htp];done));(first | rfl | (focus (simp only[go_sem];done))))
  have hmn:min (ab (aG t L)) 4097=dE t L:=by omega
  by_cases hlti:i<dE t L
  ·have c2:(i:Int)<dE t L:=by omega
   have hst:=dX (wd:=wd) hlti
   simp(disch:=omega) only[go_sem,seval,reduceCtorEq,hmn,c2]
   (refine aa (qd (ds:=aG t L) (n:=i) (fun d hd=>by have:=h.dbd d hd;omega) (by omega) (by omega)) ?_ ?_ ?_;(focus (simp only[go_sem,seval,reduceCtorEq,hpl,htp];done));(first | rfl | (focus (simp only[go_sem];done))))
   simp(disch:=omega) only[go_sem,seval,reduceCtorEq,hpl]
   generalize hxs:an (aG t L) i=xs at*
   have hxl2:xs.length=L.length:=by rw[← hxs];simp [bg,hpl]
   refine aZ (L.length) (mkB 84 4721213561365038465024) (fun j=>[(59,.d (.int j))]) (fun j=>[(7,iv (eT t.labels L xs (X i) j))]) (h1:=by first | (simp only[go_sem,seval,reduceCtorEq,nz,na,n1,qJ (hXl i)];first | done | rfl) | rfl) (h2:=by first | (simp only[go_sem,seval,reduceCtorEq,nz,na,n1,qJ (hXl i)];first | done | rfl) | rfl) (hr:=fun j hj=> ?_)
   unfold L0_spec_l06Permute
   by_cases hltj:j<L.length
   ·have c3:(j:Int)<L.length:=by omega
    have hm:=h.sub L[j] (List.getElem_mem hltj)
    obtain⟨p,hp,e1,e2,_⟩:=eE hm
    have gx:xs[j]? =some (xs.getD j 0):=by rw[ao (by omega)];exact List.getElem?_eq_getElem (by omega)
    have gp:(L.map (place t.labels))[j]? =some (p:Int):=by simp [hltj,e1]
    have c4:(p:Int)<L.length:=by omega
    have hfl:=yK t.labels L xs (X i) j
    have hfs:=wy (xs:=xs) (old:=X i) (bG h.ax) h.nodup hltj hm
    rw[e1,Int.toNat_natCast]at hfs
    have hput:(eT t.labels L xs (X i) j).take p++[xs.getD j 0]++(eT t.labels L xs (X i) j).drop (p+1)=eT t.labels L xs (X i) (j+1):=by rw[cI (by omega),hfs]
    have gL:L[j]? =some L[j]:=List.getElem?_eq_getElem hltj
    simp(disch:=omega) only[go_sem,seval,reduceCtorEq,c3,c4,gx,gp,gL,e1]
    refine⟨by omega, ?_⟩
    (refine Next.drop (mkB 84 4721213561365038465024) (by omega) (h1:= ?_) (h2:= ?_)<;>first | (simp only[go_sem,seval,reduceCtorEq,nz,na,n1,hput];first | done | rfl) | rfl | skip)
   ·have c3:¬ (j:Int)<L.length:=by omega
    have hff:eT t.labels L xs (X i) j=t.labels.map (atL L xs):=wz h.sup (by omega)
    have hid:=h.idx i
    have ho:=h.off i
    rw[hxs]at hid ho
    have hcut:=h.cut i
    have hcl:=ep hcut
    have htt:List.take wd (List.take wd (List.drop (bB t L i*wd) t.data))=List.take wd (List.drop (bB t L i*wd) t.data):=List.take_of_length_le (by omega)
    have hgl:(gath t.data wd (bB t L) i).length=i*wd:=fK fun q _=>h.cut q
    have hml:(t.labels.map (atL L xs)).length=L.length:=by simp [hll]
    have hmt:List.take t.labels.length (t.labels.map (atL L xs))=t.labels.map (atL L xs):=List.take_of_length_le (by omega)
    have hxw:∀ z∈t.labels.map (atL L xs),I64 z:=fun z hz=>by
     obtain⟨q,hq,rfl⟩:=List.mem_iff_getElem.1 hz
     have h1:=hid.2 q (by simp at hq;omega)
     have h2:=h.ax.dim (t.dims.getD q 0) (by rw[ao (by simp at hq;omega)];exact List.getElem_mem _)
     unfold oD at h1
     rw[ao hq]at h1
     exact⟨by omega,by omega⟩
    have hpn:=h.pn
    simp(disch:=omega) only[go_sem,seval,reduceCtorEq,c3,hff]
    (refine aC (jP (ds:=t.dims) (is:=t.labels.map (atL L xs)) hs.d.up ⟨by omega,hxw⟩ hid h.ax.dim (by omega)) ?_ ?_ ?_;(focus (simp only[go_sem,seval,reduceCtorEq,hml,hmt,hll];done));(first | rfl | (focus (simp only[go_sem];done))))
    simp(disch:=omega) only[go_sem,seval,reduceCtorEq,ho]
    (refine aC (qe (t:=t) (x:=bB t L i) hw (by omega) hcut (by omega) (by omega)) ?_ ?_ ?_;(focus (simp only[go_sem,seval,reduceCtorEq];done));(first | rfl | (focus (simp only[go_sem];done))))
    simp(disch:=omega) only[go_sem,seval,reduceCtorEq,hcl,hgl,htt]
    refine⟨by omega, ?_⟩
    (refine Next.drop (mkB 84 9671406556354083444326400) (by omega) (h1:= ?_) (h2:= ?_)<;>first | (simp only[go_sem,seval,reduceCtorEq,nz,na,n1,gath,Nat.add_mul,Nat.one_mul,hXs,hxs];first | done | rfl) | rfl | skip)
  ·have hiN:i=dE t L:=by omega
   have c2:¬ (dE t L:Int)<dE t L:=by omega
   have hgl:(gath t.data wd (bB t L) (dE t L)).length=dE t L*wd:=fK fun q _=>h.cut q
   rw[hiN]
   simp(disch:=omega) only[go_sem,seval,reduceCtorEq,hmn,c2]
   refine FnEnd.wk Wk.nogA ?_
   (refine FnEnd.mk (nb rfl) rfl (of_decide_eq_true rfl) ?_ ?_<;>try simp only[go_sem,seval,reduceCtorEq])
   all_goals simp only[bz,hgl,hpl]
set_option maxRecDepth 100000
def gg (r:Rg) (t:Ten) (L:List Int):Bool:=aA r t.labels t.dims t.data&&gM t.labels L
def ou (r:Rg) (t:Ten) (L:List Int):Ten:=if gg r t L=true then bz (ar r).toNat t L else ⟨[],[],[]⟩
theorem t4 {r:Rg} {t:Ten} {L:List Int} (h:aA r t.labels t.dims t.data=true) (h2:gM t.labels L=true):∃ wd n:Nat,ar r=wd∧ab t.dims=n∧PermOk t L wd n:=by
 obtain⟨wd,n,e1,e2,e3,e4,e5,e6,e7,e8,e9,e10⟩:=cD h
 exact⟨wd,n,e1,e2,e10,e2,⟨e5,e6⟩,⟨e3,e4⟩,e7,h2⟩
theorem zO {r:Rg} {t:Ten} {L:List Int} (h:gg r t L=true):∃ wd n:Nat,ar r=wd∧ab t.dims=n∧PermOk t L wd n:=by
 simp only[gg,Bool.and_eq_true]at h
 exact t4 h.1 h.2
theorem nj {r:Rg} {t:Ten} {L:List Int} {wd:Nat} (h:gg r t L=true) (h1:ar r=wd):ou r t L=bz wd t L:=by
 rw[ou,if_pos h,h1];rfl
theorem iA {kk pp nn:Int} {t:Ten} {L:List Int} (a:I64 kk) (b:I64 pp) (c:I64 nn) (h:TSz 1048576 t) (hL:Sz 1048576 L):
  Does Tryz.prog 39 [bn kk pp nn,tenA t,.d (ints L)] [] (.tup [ownT 0 (ou ⟨kk,pp,nn⟩ t L),.d (.bool (gg ⟨kk,pp,nn⟩ t L))]) (stoF (ou ⟨kk,pp,nn⟩ t L)):=by
 (refine spec_of (by kernel_rfl) Tryz.func39 jX (fnOk (nb rfl) ?_);unfold C_impl_PermuteTensor)
 (simp only[Nat.reduceSub,List.length_cons,List.length_nil,Nat.reduceAdd,am,al,aj,ai,ah,af,ae,ac];try simp only[au]);(simp only[go_sem,seval,reduceCtorEq,List.replicate])
 (refine aa (db (t:=t) a b c h.up) ?_ ?_ ?_;(focus (simp only[go_sem,seval,reduceCtorEq];done));(first | rfl | (focus (simp only[go_sem];done))))
 cases h1:aA ⟨kk,pp,nn⟩ t.labels t.dims t.data
 ·have e1:gg ⟨kk,pp,nn⟩ t L=false:=by simp [gg,h1]
  have e2:ou ⟨kk,pp,nn⟩ t L=⟨[],[],[]⟩:=by simp [ou,e1]
  simp only[go_sem,seval,reduceCtorEq,h1,e1,e2]
  refine FnEnd.wk (Wk.trans (Wk.nilS 2 0 1 _ _ _ rfl rfl) (Wk.trans (Wk.nilS 2 1 1 _ _ _ rfl rfl) (Wk.trans (Wk.nilS 2 2 1 _ _ _ rfl rfl) Wk.nogA))) ?_
  (refine FnEnd.mk (nb rfl) rfl (of_decide_eq_true rfl) ?_ ?_<;>try simp only[go_sem,seval,reduceCtorEq])
 simp only[go_sem,seval,reduceCtorEq,h1]
 (refine aa (lR (ls:=t.labels) (L:=L) h.l.up.len hL.up.len) ?_ ?_ ?_;(focus (simp only[go_sem,seval,reduceCtorEq];done));(first | rfl | (focus (simp only[go_sem];done))))
 cases h2:gM t.labels L
 ·have e1:gg ⟨kk,pp,nn⟩ t L=false:=by simp [gg,h2]
  have e2:ou ⟨kk,pp,nn⟩ t L=⟨[],[],[]⟩:=by simp [ou,e1]
  simp only[go_sem,seval,reduceCtorEq,h2,e1,e2]
  refine FnEnd.wk (Wk.trans (Wk.nilS 2 0 1 _ _ _ rfl rfl) (Wk.trans (Wk.nilS 2 1 1 _ _ _ rfl rfl) (Wk.trans (Wk.nilS 2 2 1 _ _ _ rfl rfl) Wk.nogA))) ?_
  (refine FnEnd.mk (nb rfl) rfl (of_decide_eq_true rfl) ?_ ?_<;>try simp only[go_sem,seval,reduceCtorEq])
 have ho:gg ⟨kk,pp,nn⟩ t L=true:=by simp [gg,h1,h2]
 obtain⟨wd,n,e1,e2,hP⟩:=zO ho
 have e3:=nj ho e1
 simp only[go_sem,seval,reduceCtorEq,h2]
 (refine aa (lY e1 hP h hL) ?_ ?_ ?_;(focus (simp only[go_sem,seval,reduceCtorEq];done));(first | rfl | (focus (simp only[go_sem];done))))
 simp only[go_sem,seval,reduceCtorEq,ho,e3]
 refine FnEnd.wk Wk.nogA ?_
 (refine FnEnd.mk (nb rfl) rfl (of_decide_eq_true rfl) ?_ ?_<;>try simp only[go_sem,seval,reduceCtorEq])
theorem vY {r:Rg} {t:Ten} {L:List Int} {wd n:Nat} (hf:fits r t.data):fits r (bz wd t L).data:=eo fun x hx=>eN hf x (vh x hx)
theorem vZ {t:Ten} {L:List Int} {wd n:Nat} (h:PermOk t L wd n):((bz wd t L).data.length:Int)=ab (aG t L)*wd:=by
 show ((gath t.data wd (bB t L) (dE t L)).length:Int)=_
 rw[fK fun q _=>h.cut q,h.pN]
 simp
set_option maxRecDepth 100000
end Go.Proofs.YtneocijmbnhblaaGreat
