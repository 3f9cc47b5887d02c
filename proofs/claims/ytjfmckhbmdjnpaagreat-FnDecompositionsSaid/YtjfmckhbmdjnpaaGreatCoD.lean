/-
 Contracts: strides, sums of products, the next index, the index at an offset. No condition.
-/
import Derived.Test.YtjfmckhbmdjnpaaGreatCoC
import Derived.Test.YtjfmckhbmdjnpaaGreatLift28
import Derived.Test.YtjfmckhbmdjnpaaGreatCoB
set_option linter.unusedSimpArgs false
set_option linter.unusedVariables false
namespace Go.Proofs.YtjfmckhbmdjnpaaGreat
open Go.RowKit Go.Lift Plain
set_option maxRecDepth 100000
theorem BK (z:List AV):Go.Lift.bA 1 z=z:=by simp [Go.Lift.bA]
theorem zO (z:List AV):Go.Lift.bA 0 z=[]:=by simp [Go.Lift.bA]
attribute [go_sem high] zO BK
theorem wK {a b:List Int} {k:Nat} (ha:k<a.length) (hb:k<b.length):dotI (a.take (k+1)) (b.take (k+1))=dotI (a.take k) (b.take k)+a.getD k 0*b.getD k 0:=by
 rw[bb ha,bb hb,wL _ _ _ _ (by simp;omega),ab ha,ab hb]
theorem By {a b:List Int} (hl:a.length≤b.length) (h:∀ k,k<a.length→0≤a.getD k 0*b.getD k 0∧a.getD k 0*b.getD k 0≤16777216):
  ∀ k,k≤a.length→0≤dotI (a.take k) (b.take k)∧dotI (a.take k) (b.take k)≤16777216*k
 | 0,_=>by simp [dotI]
 | k+1,hk=>by
  have:=By hl h k (by omega)
  have:=h k (by omega)
  rw[wK (by omega) (by omega)]
  push_cast
  omega
theorem tq {a b:List Int} (hl:a.length=b.length) (hn:a.length≤1048576) (h:∀ k,k<a.length→0≤a.getD k 0*b.getD k 0∧a.getD k 0*b.getD k 0≤16777216):
  Does Tryz.prog 82 [.d (ints a),.d (ints b)] [] (.d (.int (dotI a b))) []:=by
 have hbd:=By (Nat.le_of_eq hl) h
 (refine spec_of (by kernel_rfl) Tryz.func82 xx (fnOk (nb rfl) ?_);unfold qZ)
 (simp only[Nat.reduceSub,Zl,zn,Nat.reduceAdd,zF];try simp only[af]);(simp only[go_sem,seval,reduceCtorEq,List.replicate])
 refine aN (a.length) (mkB 25 16776256) (fun k=>[(5,.d (.int (dotI (a.take k) (b.take k)))),(9,.d (.int k))]) (fun k=>[]) (h1:=by first | (simp only[go_sem,seval,reduceCtorEq,nz,na,n1,List.take_zero,dotI];first | done | rfl) | rfl) (h2:=by first | (simp only[go_sem,seval,reduceCtorEq,nz,na,n1,List.take_zero,dotI];first | done | rfl) | rfl) (hr:=fun k hk=> ?_)
 unfold oR
 have hb0:=hbd k hk
 by_cases hlt:k<a.length
 ·have h1:(k:Int)<a.length:=by omega
  have h2:(k:Int)<b.length:=by omega
  have ha:a[k]? =some (a.getD k 0):=by rw[ab hlt];exact zg hlt
  have hb:b[k]? =some (b.getD k 0):=by rw[ab (by omega)];exact zg (by omega)
  have hk1:=h k hlt
  have hs:=wK hlt (show k<b.length by omega)
  simp(disch:=omega) only[go_sem,seval,reduceCtorEq,h1,h2,ha,hb]
  (refine Next.drop (mkB 25 16776256) (by omega) (h1:= ?_) (h2:= ?_)<;>first | (simp only[go_sem,seval,reduceCtorEq,nz,na,n1,hs];first | done | rfl) | rfl | skip)
 ·have h1:¬ (k:Int)<a.length:=by omega
  have e1:a.take k=a:=zt (by omega)
  have e2:b.take k=b:=zt (by omega)
  simp(disch:=omega) only[go_sem,seval,reduceCtorEq,h1,e1,e2]
  (refine zE ?_ ?_<;>try simp only[go_sem,seval,reduceCtorEq])
theorem iz {t:Ten} {L:List Int} (ha:axOk t.labels t.dims) (hp:aa t.dims≤4096) (hL:L.length≤1048576):
  Does Tryz.prog 78 [tenA t,.d (ints L)] [] (.own 0 0 L.length) [some ⟨1,true,iv (L.map (ai t.labels t.dims))⟩]:=by
 have l1:=ha.1
 have l2:=ha.len
 have hdm:=ha.dim
 generalize hls:t.labels=ls at*
 generalize hds:t.dims=ds at*
 have hstep:∀ i,1≤aa (ds.drop i)∧aa (ds.drop i)≤4096:=fun i=>by
  have h1:=aW (ds.drop i) (fun d hd=>(hdm d (List.mem_of_mem_drop hd)).1)
  have h2:=aW (ds.take i) (fun d hd=>(hdm d (List.mem_of_mem_take hd)).1)
  have h3:=dw (ds.take i) (ds.drop i)
  rw[List.take_append_drop]at h3
  have h4:aa (ds.drop i)≤aa (ds.take i)*aa (ds.drop i):=by
   have:=Int.mul_le_mul_of_nonneg_right h2 (show 0≤aa (ds.drop i)by omega)
   omega
  omega
 (refine spec_of (by kernel_rfl) Tryz.func78 rt (fnOk (nb rfl) ?_);unfold kZ)
 (simp only[Nat.reduceSub,Zl,zn,Nat.reduceAdd,zF];try simp only[af]);(simp only[go_sem,seval,reduceCtorEq,List.replicate])
 simp only[hls,hds]
 refine⟨by omega, ?_⟩
 simp(disch:=omega) only[go_sem,seval,reduceCtorEq,hls,hds]
 have h00:L.map (ai (ls.drop (ds.length-0)) (ds.drop (ds.length-0)))=List.replicate L.length 0:=by
  have:ls.drop (ds.length-0)=[]:=List.drop_eq_nil_of_le (by omega)
  rw[this]
  refine List.ext_getElem (by simp) fun i h1 h2=> ?_
  simp [ai]
 have h01:aa (ds.drop (ds.length-0))=1:=by
  have:ds.drop (ds.length-0)=[]:=List.drop_eq_nil_of_le (by omega)
  rw[this];rfl
 refine aN (ds.length) (mkB 48 140737488225024) (fun k=>[(6,.d (.int (aa (ds.drop (ds.length-k))))),(7,.d (.int (ds.length-1-k)))]) (fun k=>[(1,iv (L.map (ai (ls.drop (ds.length-k)) (ds.drop (ds.length-k)))))]) (h1:=by first | (simp only[go_sem,seval,reduceCtorEq,nz,na,n1,h00,h01,Int.sub_zero];first | done | rfl) | rfl) (h2:=by first | (simp only[go_sem,seval,reduceCtorEq,nz,na,n1,h00,h01,Int.sub_zero];first | done | rfl) | rfl) (hr:=fun k hk=> ?_)
 unfold jj
 by_cases hlt:k<ds.length
 ·obtain⟨i,hi⟩:∃ i,ds.length=k+1+i:=⟨ds.length-k-1,by omega⟩
  have e7:(ds.length:Int)-1-k=i:=by omega
  have e8:ds.length-k=i+1:=by omega
  have c1:(0:Int)≤i:=by omega
  have c1':(i:Int)≥0:=by omega
  rw[e8]
  simp only[go_sem,seval,reduceCtorEq,e7,c1']
  have hil:i<ls.length:=by omega
  have hid:i<ds.length:=by omega
  have c2:(i:Int)<ls.length:=by omega
  have c3:(i:Int)<ds.length:=by omega
  have gl:ls[i]? =some ls[i]:=zg hil
  have gd:ds[i]? =some ds[i]:=zg hid
  have el:ls.drop i=ls[i] :: ls.drop (i+1):=List.drop_eq_getElem_cons hil
  have ed:ds.drop i=ds[i] :: ds.drop (i+1):=List.drop_eq_getElem_cons hid
  have hst:∀ x,ai (ls.drop i) (ds.drop i) x=if x=ls[i] then aa (ds.drop (i+1)) else ai (ls.drop (i+1)) (ds.drop (i+1)) x:=fun x=>by rw[el,ed,ai]
  have hpr:aa (ds.drop (i+1))*ds[i]=aa (ds.drop i):=by rw[ed,bc,Int.mul_comm]
  have hsi:=hstep i
  have hml:(L.map (ai (ls.drop i) (ds.drop i))).length=(L.map (ai (ls.drop (i+1)) (ds.drop (i+1)))).length:=by simp
  refine aN (L.length) (mkB 48 1099494851328) (fun j=>[(23,.d (.int j))]) (fun j=>[(1,iv (mix (L.map (ai (ls.drop i) (ds.drop i))) (L.map (ai (ls.drop (i+1)) (ds.drop (i+1)))) j))]) (h1:=by first | (simp only[go_sem,seval,reduceCtorEq,nz,na,n1,cl];first | done | rfl) | rfl) (h2:=by first | (simp only[go_sem,seval,reduceCtorEq,nz,na,n1,cl];first | done | rfl) | rfl) (hr:=fun j hj=> ?_)
  unfold jr
  by_cases hltj:j<L.length
  ·have h1:(j:Int)<L.length:=by omega
   have gL:L[j]? =some L[j]:=zg hltj
   have hmx:(L.map (ai (ls.drop i) (ds.drop i)))[j]? =some (ai (ls.drop i) (ds.drop i) L[j]):=by simp [hltj]
   have hmn:=fG hml hmx
   have hlen:(mix (L.map (ai (ls.drop i) (ds.drop i))) (L.map (ai (ls.drop (i+1)) (ds.drop (i+1)))) j).length=L.length:=by rw[iY hml];simp
   by_cases hx:L[j]=ls[i]
   ·have hxe:(L[j]==ls[i])=true:=by simp [hx]
    have hv:=hst L[j]
    rw[if_pos hx]at hv
    simp(disch:=omega) only[go_sem,seval,reduceCtorEq,h1,gL,gl,c1,c2,hxe]
    refine⟨by rw[hlen];omega, ?_⟩
    rw[hv]at hmn
    (refine Next.drop (mkB 48 1099494851328) (by omega) (h1:= ?_) (h2:= ?_)<;>first | (simp only[go_sem,seval,reduceCtorEq,nz,na,n1,hmn];first | done | rfl) | rfl | skip)
   ·have hxe:(L[j]==ls[i])=false:=by simp [hx]
    have hv:=hst L[j]
    rw[if_neg hx]at hv
    have e2:mix (L.map (ai (ls.drop i) (ds.drop i))) (L.map (ai (ls.drop (i+1)) (ds.drop (i+1)))) (j+1)=mix (L.map (ai (ls.drop i) (ds.drop i))) (L.map (ai (ls.drop (i+1)) (ds.drop (i+1)))) j:=by
     rw[← hmn,cD (by rw[hlen];omega)]
     refine List.ext_getElem? fun q=> ?_
     rw[List.getElem?_set]
     split
     ·rename_i hq
      subst hq
      rw[if_pos (by rw[hlen];omega),Bi hml,if_neg (Nat.lt_irrefl _),hv]
      simp [hltj]
     ·rfl
    simp(disch:=omega) only[go_sem,seval,reduceCtorEq,h1,gL,gl,c1,c2,hxe]
    (refine Next.drop (mkB 48 1099494851328) (by omega) (h1:= ?_) (h2:= ?_)<;>first | (simp only[go_sem,seval,reduceCtorEq,nz,na,n1,e2];first | done | rfl) | rfl | skip)
  ·have h1:¬ (j:Int)<L.length:=by omega
   have hf:mix (L.map (ai (ls.drop i) (ds.drop i))) (L.map (ai (ls.drop (i+1)) (ds.drop (i+1)))) j=L.map (ai (ls.drop i) (ds.drop i)):=gQ (by simp;omega) (by simp;omega)
   have e9:ds.length-(k+1)=i:=by omega
   have e10:(ds.length:Int)-1-(↑k+1)=i-1:=by omega
   simp(disch:=omega) only[go_sem,seval,reduceCtorEq,h1,c1,c3,gd,hf,hpr]
   (refine Next.drop (mkB 48 140737488225024) (by omega) (h1:= ?_) (h2:= ?_)<;>first | (simp only[go_sem,seval,reduceCtorEq,nz,na,n1,e9,e10];first | done | rfl) | rfl | skip)
 ·have hk':k=ds.length:=by omega
  have c1:¬ (ds.length:Int)-1-k≥0:=by omega
  have e0:ds.length-k=0:=by omega
  simp(disch:=omega) only[go_sem,seval,reduceCtorEq,c1,e0]
  (refine zE ?_ ?_<;>try simp only[go_sem,seval,reduceCtorEq])
theorem sg {ds:List Int} {n:Int} (hd:∀ d∈ds,1≤d∧d≤1000) (hl:ds.length≤1048576) (h0:0≤n):
  Does Tryz.prog 84 [.d (ints ds),.own 0 0 ds.length] [some ⟨1,false,iv (ac ds n)⟩] (.d (.bool (decide ((n+1) % aa ds≠0)))) [some ⟨1,false,iv (ac ds (n+1))⟩]:=by
 have hd1:∀ d∈ds,1≤d:=fun d h=>(hd d h).1
 have hdl:=aZ ds n
 have hdl1:=aZ ds (n+1)
 (refine spec_of (by kernel_rfl) Tryz.func84 rz (fnOk (nb rfl) ?_);unfold l6)
 (simp only[Nat.reduceSub,Zl,zn,Nat.reduceAdd,zF];try simp only[af]);(simp only[go_sem,seval,reduceCtorEq,List.replicate])
 simp(disch:=omega) only[go_sem,seval,reduceCtorEq]
 have hz:(ac ds n).take (ds.length-0)++(ac ds (n+1)).drop (ds.length-0)=ac ds n:=by
  rw[Nat.sub_zero,zt (by omega),List.drop_eq_nil_of_le (by omega),List.append_nil]
 refine bV (ds.length) (mkB 31 2147483152) (fun k=>(n+1) % aa (ds.drop (ds.length-k))=0) (fun k=>[(5,.d (.int (ds.length-1-k)))]) (fun k=>[(0,iv ((ac ds n).take (ds.length-k)++(ac ds (n+1)).drop (ds.length-k)))]) (hi:=by simp [aa,Int.emod_one]) (h1:=by first | (simp only[go_sem,seval,reduceCtorEq,nz,na,n1,hz,Int.sub_zero];first | done | rfl) | rfl) (h2:=by first | (simp only[go_sem,seval,reduceCtorEq,nz,na,n1,hz,Int.sub_zero];first | done | rfl) | rfl) (hr:=fun k hk hi=> ?_)
 unfold jv
 by_cases hlt:k<ds.length
 ·obtain⟨i,hik⟩:∃ i,ds.length=k+1+i:=⟨ds.length-k-1,by omega⟩
  have e7:(ds.length:Int)-1-k=i:=by omega
  have e8:ds.length-k=i+1:=by omega
  have c1:(i:Int)≥0:=by omega
  have hid:i<ds.length:=by omega
  have c3:(i:Int)<ds.length:=by omega
  rw[e8]at hi ⊢
  have hst:=zJ hd1 hid hi
  have hkeep:=sw ds n i hd1
  have gd:ds[i]? =some (ds.getD i 0):=by rw[ab hid];exact zg hid
  have hdi:=hd ds[i] (List.getElem_mem hid)
  rw[← ab hid]at hdi
  have hbd:=gA ds n hd1 i hid
  have hCl:((ac ds n).take (i+1)++(ac ds (n+1)).drop (i+1)).length=ds.length:=by simp;omega
  have hCi:((ac ds n).take (i+1)++(ac ds (n+1)).drop (i+1))[i]? =some ((ac ds n).getD i 0):=by
   rw[List.getElem?_append_left (by simp;omega),List.getElem?_take,if_pos (by omega),ab (by omega)];exact zg (by omega)
  have hCs:∀ v,((ac ds n).take (i+1)++(ac ds (n+1)).drop (i+1)).set i v=(ac ds n).take i++v :: (ac ds (n+1)).drop (i+1):=fun v=>by
   rw[← cD (by omega)]
   have h1:((ac ds n).take (i+1)++(ac ds (n+1)).drop (i+1)).take i=(ac ds n).take i:=by
    rw[List.take_append_of_le_length (by simp;omega),List.take_take,Nat.min_eq_left (by omega)]
   have h2:((ac ds n).take (i+1)++(ac ds (n+1)).drop (i+1)).drop (i+1)=(ac ds (n+1)).drop (i+1):=by
    rw[List.drop_append_of_le_length (by simp;omega),List.drop_eq_nil_of_le (by simp;omega),List.nil_append]
   rw[h1,h2,List.append_assoc];rfl
  generalize (ac ds n).take (i+1)++(ac ds (n+1)).drop (i+1)=C at*
  have hput:∀ v:Int,C.take i++[v]++C.drop (i+1)=C.set i v:=fun v=>cD (by omega)
  have hput2:∀ v w:Int,(C.set i v).take i++[w]++(C.set i v).drop (i+1)=C.set i w:=fun v w=>by rw[cD (by simp;omega),List.set_set]
  have hget:∀ v:Int,(C.set i v)[i]? =some v:=fun v=>by rw[List.getElem?_set,if_pos rfl,if_pos (by omega)]
  have hcl:i+1≤C.length:=by omega
  have hsp:(ac ds (n+1)).drop i=(ac ds (n+1)).getD i 0 :: (ac ds (n+1)).drop (i+1):=by rw[ab (by omega)];exact List.drop_eq_getElem_cons (by omega)
  simp(disch:=omega) only[go_sem,seval,reduceCtorEq,e7,c1,c3,gd,hCi,hput,hget,hput2,hcl,List.length_set]
  by_cases h3:(ac ds n).getD i 0+1<ds.getD i 0
  ·obtain⟨h4,h5⟩:=hst.1 h3
   have hne:(n+1) % aa ds≠0:=by
    intro e
    refine h4 ?_
    have hdvd:aa (ds.drop i) ∣ aa ds:=by
     have:=dw (ds.take i) (ds.drop i)
     rw[List.take_append_drop]at this
     rw[this]
     exact Int.dvd_mul_left _ _
    exact Int.emod_eq_zero_of_dvd (Int.dvd_trans hdvd (Int.dvd_of_emod_eq_zero e))
   have hfin:C.set i ((ac ds n).getD i 0+1)=ac ds (n+1):=by
    rw[hCs, ← hkeep h4 (by omega), ← h5, ← hsp,List.take_append_drop]
   simp(disch:=omega) only[go_sem,seval,reduceCtorEq,h3,hfin]
   (refine zE ?_ ?_<;>try simp only[go_sem,seval,reduceCtorEq])
   rw[decide_eq_true hne]
  ·obtain⟨h4,h5⟩:=hst.2 h3
   have e9:ds.length-(k+1)=i:=by omega
   have e10:(ds.length:Int)-1-(↑k+1)=i-1:=by omega
   rw[h5]at hsp
   simp(disch:=omega) only[go_sem,seval,reduceCtorEq,h3]
   have hI:(n+1) % aa (ds.drop (ds.length-(k+1)))=0:=by rw[e9];exact h4
   refine⟨c3,by simp;omega, ?_⟩
   have hf0:∀ v:Int,(C.set i v).take i++[0]++(C.set i v).drop (i+1)=(ac ds n).take i++(ac ds (n+1)).drop i:=fun v=>by rw[hput2,hCs, ← hsp]
   (refine NextI.drop (mkB 31 2147483152) (by omega) (hI) (h1:= ?_) (h2:= ?_)<;>first | (simp only[go_sem,seval,reduceCtorEq,nz,na,n1,e9,e10,hf0];first | done | rfl) | rfl | skip)
 ·have hk':ds.length-k=0:=by omega
  have c1:¬ (ds.length:Int)-1-k≥0:=by omega
  rw[hk']at hi ⊢
  simp(disch:=omega) only[go_sem,seval,reduceCtorEq,c1]
  (refine zE ?_ ?_<;>try simp only[go_sem,seval,reduceCtorEq])
  have:(n+1) % aa ds=0:=hi
  rw[this];rfl
theorem Am {ds:List Int} {n:Int} (hd:∀ d∈ds,1≤d∧d≤1000) (hl:ds.length≤1048576) (h0:0≤n∧n≤1152921504606846976):
  Does Tryz.prog 93 [.d (ints ds),.d (.int n)] [] (.own 0 0 ds.length) [some ⟨1,true,iv (ac ds n)⟩]:=by
 have hd1:∀ d∈ds,1≤d:=fun d h=>(hd d h).1
 have hdl:=aZ ds n
 have hpp:∀ i,1≤aa (ds.drop i):=fun i=>aW _ (fun d h=>hd1 d (List.mem_of_mem_drop h))
 (refine spec_of (by kernel_rfl) Tryz.func93 sI (fnOk (nb rfl) ?_);unfold mo)
 (simp only[Nat.reduceSub,Zl,zn,Nat.reduceAdd,zF];try simp only[af]);(simp only[go_sem,seval,reduceCtorEq,List.replicate])
 refine⟨by omega, ?_⟩
 simp(disch:=omega) only[go_sem,seval,reduceCtorEq]
 have hz:(List.replicate ds.length (0:Int)).take (ds.length-0)++(ac ds n).drop (ds.length-0)=List.replicate ds.length 0:=by
  rw[Nat.sub_zero,zt (by simp),List.drop_eq_nil_of_le (by omega),List.append_nil]
 have hz2:n / aa (ds.drop (ds.length-0))=n:=by simp [aa]
 refine aN (ds.length) (mkB 33 4294959104) (fun k=>[(1,.d (.int (n / aa (ds.drop (ds.length-k))))),(6,.d (.int (ds.length-1-k)))]) (fun k=>[(0,iv ((List.replicate ds.length (0:Int)).take (ds.length-k)++(ac ds n).drop (ds.length-k)))]) (h1:=by first | (simp only[go_sem,seval,reduceCtorEq,nz,na,n1,hz,hz2,Int.sub_zero];first | done | rfl) | rfl) (h2:=by first | (simp only[go_sem,seval,reduceCtorEq,nz,na,n1,hz,hz2,Int.sub_zero];first | done | rfl) | rfl) (hr:=fun k hk=> ?_)
 unfold kR
 by_cases hlt:k<ds.length
 ·obtain⟨i,hik⟩:∃ i,ds.length=k+1+i:=⟨ds.length-k-1,by omega⟩
  have e7:(ds.length:Int)-1-k=i:=by omega
  have e8:ds.length-k=i+1:=by omega
  have c1:(i:Int)≥0:=by omega
  have hid:i<ds.length:=by omega
  have c3:(i:Int)<ds.length:=by omega
  rw[e8]
  have gd:ds[i]? =some ds[i]:=zg hid
  have hdi:=hd ds[i] (List.getElem_mem hid)
  have hne:ds[i]≠0:=by omega
  have hP:=hpp (i+1)
  have hq:0≤n / aa (ds.drop (i+1)):=Int.ediv_nonneg h0.1 (by omega)
  have hqb:n / aa (ds.drop (i+1))≤n:=Int.ediv_le_self _ h0.1
  have hdg:(n / aa (ds.drop (i+1))).tmod ds[i]=(ac ds n).getD i 0:=by rw[tm hq,lN _ _ _ hid,sy,ab hid]
  have hdv:(n / aa (ds.drop (i+1))).tdiv ds[i]=n / aa (ds.drop i):=by
   rw[Int.tdiv_eq_ediv_of_nonneg hq, ← C9 ds n i hid hd1,ab hid]
  have hdvb:0≤n / aa (ds.drop i):=Int.ediv_nonneg h0.1 (by have:=hpp i;omega)
  have hdvc:n / aa (ds.drop i)≤n:=Int.ediv_le_self _ h0.1
  have hCl:((List.replicate ds.length (0:Int)).take (i+1)++(ac ds n).drop (i+1)).length=ds.length:=by simp;omega
  have hCs:((List.replicate ds.length (0:Int)).take (i+1)++(ac ds n).drop (i+1)).take i++[(ac ds n).getD i 0]++((List.replicate ds.length (0:Int)).take (i+1)++(ac ds n).drop (i+1)).drop (i+1)=(List.replicate ds.length (0:Int)).take i++(ac ds n).drop i:=by
   have h1:((List.replicate ds.length (0:Int)).take (i+1)++(ac ds n).drop (i+1)).take i=(List.replicate ds.length (0:Int)).take i:=by
    rw[List.take_append_of_le_length (by simp;omega),List.take_take,Nat.min_eq_left (by omega)]
   have h2:((List.replicate ds.length (0:Int)).take (i+1)++(ac ds n).drop (i+1)).drop (i+1)=(ac ds n).drop (i+1):=by
    rw[List.drop_append_of_le_length (by simp;omega),List.drop_eq_nil_of_le (by simp;omega),List.nil_append]
   rw[h1,h2,List.append_assoc,ab (by omega),List.singleton_append, ← List.drop_eq_getElem_cons]
  generalize (List.replicate ds.length (0:Int)).take (i+1)++(ac ds n).drop (i+1)=C at*
  have hcl:i+1≤C.length:=by omega
  have e9:ds.length-(k+1)=i:=by omega
  have e10:(ds.length:Int)-1-(↑k+1)=i-1:=by omega
  simp(disch:=omega) only[go_sem,seval,reduceCtorEq,e7,c1,c3,gd,hne,hdg,hdv,hcl,ne_eq,not_false_eq_true]
  (refine Next.drop (mkB 33 4294959104) (by omega) (h1:= ?_) (h2:= ?_)<;>first | (simp only[go_sem,seval,reduceCtorEq,nz,na,n1,e9,e10,hCs];first | done | rfl) | rfl | skip)
 ·have hk':ds.length-k=0:=by omega
  have c1:¬ (ds.length:Int)-1-k≥0:=by omega
  rw[hk']
  simp(disch:=omega) only[go_sem,seval,reduceCtorEq,c1]
  (refine zE ?_ ?_<;>try simp only[go_sem,seval,reduceCtorEq])
set_option maxRecDepth 100000
def aS (t:Ten) (L:List Int):List Int:=L.map (ar t)
def c9 (t:Ten) (L:List Int) (i:Nat):Nat:=(dotI (L.map (ai t.labels t.dims)) (ac (aS t L) i)).toNat
def lW (t:Ten) (L:List Int):Nat:=(aa (aS t L)).toNat
def fB (wd:Nat) (t:Ten) (L:List Int):Ten:=⟨L,aS t L,gath t.data wd (c9 t L) (lW t L)⟩
structure PermOk (t:Ten) (L:List Int) (wd n:Nat):Prop where
 ax:axOk t.labels t.dims
 pn:aa t.dims=n
 n1:1≤n∧n≤4096
 w1:1≤wd∧wd≤6
 dl:t.data.length=n*wd
 same:lV t.labels L=true
namespace PermOk
variable {t : Ten} {L : List Int} {wd n : Nat}
theorem len (h:PermOk t L wd n):L.length=t.labels.length:=(zd h.same).1
theorem sub (h:PermOk t L wd n):∀ x∈L,x∈t.labels:=fun x hx=>by
 obtain⟨k,hk,rfl⟩:=List.mem_iff_getElem.1 hx
 exact((zd h.same).2 k hk).1
theorem nodup (h:PermOk t L wd n):L.Nodup:=mN fun k hk=>((zd h.same).2 k hk).2
theorem sup (h:PermOk t L wd n):∀ x∈t.labels,x∈L:=ya h.nodup h.sub (Nat.le_of_eq h.len.symm)
theorem len12 (h:PermOk t L wd n):L.length≤12:=by have:=h.len;have:=h.ax.1;omega
theorem dbd (h:PermOk t L wd n):∀ d∈aS t L,1≤d∧d≤8:=fun d hd=>by
 simp only[aS,List.mem_map]at hd
 obtain⟨x,hx,rfl⟩:=hd
 exact cx h.ax (h.sub x hx)
theorem pbd (h:PermOk t L wd n):1≤aa (aS t L)∧aa (aS t L)≤n:=by
 refine⟨aW _ (fun d hd=>(h.dbd d hd).1), ?_⟩
 have:=qa (f:=ar t) h.nodup h.sub (fun x hx=>(cx h.ax hx).1)
 rw[qI h.ax,h.pn]at this
 exact this
theorem pN (h:PermOk t L wd n):aa (aS t L)=lW t L:=by have:=h.pbd;unfold lW;omega
theorem idx (h:PermOk t L wd n) (i:Nat):sp t.dims (t.labels.map (atL L (ac (aS t L) i))):=by
 refine⟨by simp [h.ax.len],fun k hk=> ?_⟩
 have hk':k<t.labels.length:=by have:=h.ax.len;omega
 have hm:=h.sup t.labels[k] (List.getElem_mem hk')
 obtain⟨q,h1,h2,h3,h4⟩:=BH (xs:=ac (aS t L) i) hm (by simp [aZ,aS])
 have h5:=gA (aS t L) i (fun d hd=>(h.dbd d hd).1) q (by simpa [aS]using h1)
 have h6:(aS t L).getD q 0=t.dims.getD k 0:=by
  rw[ab (by simpa [aS]using h1),ab hk]
  have h7:L[q]=t.labels[k]:=by rw[zg h1]at h3;simpa using h3
  simp only[aS,List.getElem_map,h7]
  exact fK h.ax hk' hk
 unfold uM
 have h8:(t.labels.map (atL L (ac (aS t L) i))).getD k 0=atL L (ac (aS t L) i) t.labels[k]:=by rw[ab (by simpa using hk')];simp
 rw[h8,h4, ← h6]
 exact h5
theorem off (h:PermOk t L wd n) (i:Nat):dotI (L.map (ai t.labels t.dims)) (ac (aS t L) i)=c9 t L i∧c9 t L i<n∧offs t.dims (t.labels.map (atL L (ac (aS t L) i)))=c9 t L i:=by
 have h1:=pu h.ax.len (bX h.ax) h.nodup h.sup (xs:=ac (aS t L) i) (by simp [aZ,aS])
 have h2:=Be _ _ _ h.ax (h.idx i)
 have h3:=h.pn
 unfold c9
 rw[h1]
 omega
theorem cut (h:PermOk t L wd n) (i:Nat):c9 t L i*wd+wd≤t.data.length:=by
 rw[h.dl];exact kC (h.off i).2.1
theorem dotb (h:PermOk t L wd n) (i k:Nat):0≤(L.map (ai t.labels t.dims)).getD k 0*(ac (aS t L) i).getD k 0∧(L.map (ai t.labels t.dims)).getD k 0*(ac (aS t L) i).getD k 0≤16777216:=by
 by_cases hk:k<L.length
 ·have h1:=gA (aS t L) i (fun d hd=>(h.dbd d hd).1) k (by simpa [aS]using hk)
  have h2:=h.dbd ((aS t L).getD k 0) (by rw[ab (by simpa [aS]using hk)];exact List.getElem_mem _)
  have h3:=pq t.labels t.dims L[k] (fun d hd=>(h.ax.dim d hd).1)
  have h4:=h.pn
  have h5:=h.n1
  rw[ab (show k<(L.map (ai t.labels t.dims)).length by simpa using hk),List.getElem_map]
  generalize (ac (aS t L) i).getD k 0=x at*
  generalize ai t.labels t.dims L[k]=s at*
  refine⟨Int.mul_nonneg h3.1 h1.1, ?_⟩
  have:s*x≤s*8:=Int.mul_le_mul_of_nonneg_left (by omega) h3.1
  omega
 ·have:(L.map (ai t.labels t.dims)).getD k 0=0:=by simp [zq,List.getElem?_eq_none (Nat.le_of_not_lt hk)]
  rw[this];simp
end PermOk
theorem xi {kk pp nn:Int} {t:Ten} {L:List Int} {wd n:Nat} (hw:ah ⟨kk,pp,nn⟩=wd) (h:PermOk t L wd n) (hs:TSz 1048576 t) (hL:Sz 1048576 L):
  Does Tryz.prog 116 [bm kk pp nn,tenA t,.d (ints L)] [] (ownT 0 (fB wd t L)) (stoF (fB wd t L)):=by
 have hl12:=h.len12
 have hll:=h.len
 have hal:=h.ax.len
 have hpl:(aS t L).length=L.length:=by simp [aS]
 have hxl:=hs.x.len
 (refine spec_of (by kernel_rfl) Tryz.func116 qq (fnOk (nb rfl) ?_);unfold k9)
 (simp only[Nat.reduceSub,Zl,zn,Nat.reduceAdd,zF];try simp only[af]);(simp only[go_sem,seval,reduceCtorEq,List.replicate])
 (refine zD (dU (xs:=L) (by omega)) ?_)
 simp(disch:=omega) only[go_sem,seval,reduceCtorEq]
 refine⟨by omega, ?_⟩
 refine aN (L.length) (mkB 59 137436857088) (fun k=>[(20,.d (.int k))]) (fun k=>[(4,iv (mix (aS t L) (List.replicate L.length 0) k))]) (h1:=by first | (simp only[go_sem,seval,reduceCtorEq,nz,na,n1,cl];first | done | rfl) | rfl) (h2:=by first | (simp only[go_sem,seval,reduceCtorEq,nz,na,n1,cl];first | done | rfl) | rfl) (hr:=fun k hk=> ?_)
 unfold i7
 by_cases hlt:k<L.length
 ·have c1:(k:Int)<L.length:=by omega
  have g:L[k]? =some L[k]:=zg hlt
  have hm:=h.sub L[k] (List.getElem_mem hlt)
  obtain⟨i,hi1,hi2,hi3,hi4⟩:=dB hal hm
  have c2:(i:Int)<t.dims.length:=by omega
  have hmx:(aS t L)[k]? =some (ar t L[k]):=by simp [aS,hlt]
  have hmn:=fG (l:=aS t L) (r:=List.replicate L.length 0) (by simp [hpl]) hmx
  have hlen:(mix (aS t L) (List.replicate L.length 0) k).length=L.length:=by rw[iY (by simp [hpl])];exact hpl
  simp(disch:=omega) only[go_sem,seval,reduceCtorEq,c1,g]
  (refine zD (nq (t:=t) (x:=L[k]) hs.l.up.len) ?_)
  simp(disch:=omega) only[go_sem,seval,reduceCtorEq,hi3,c2,hi4,c1]
  refine⟨by rw[hlen];omega, ?_⟩
  (refine Next.drop (mkB 59 137436857088) (by omega) (h1:= ?_) (h2:= ?_)<;>first | (simp only[go_sem,seval,reduceCtorEq,nz,na,n1,hmn];first | done | rfl) | rfl | skip)
 ·have c1:¬ (k:Int)<L.length:=by omega
  have hf:mix (aS t L) (List.replicate L.length 0) k=aS t L:=gQ (by simp;omega) (by omega)
  simp(disch:=omega) only[go_sem,seval,reduceCtorEq,c1,hf]
  have hN:=h.pbd
  have hpn:=h.pn
  have hn1:=h.n1
  (refine zC (iz (t:=t) (L:=L) h.ax (by omega) (by omega)) ?_)
  simp(disch:=omega) only[go_sem,seval,reduceCtorEq]
  refine⟨by omega, ?_⟩
  (refine dr (Wk.nilS 5 2 1 _ _ _ rfl rfl) ?_;simp only[go_sem,seval,reduceCtorEq])
  have hd0:ac (aS t L) 0=List.replicate L.length 0:=by
   refine List.ext_getElem (by simp [aZ,hpl]) fun q h1 h2=> ?_
   have h3:q<(aS t L).length:=by simpa [aZ]using h1
   have h4:=h.dbd (aS t L)[q] (List.getElem_mem h3)
   have h5:=lN (aS t L) 0 q h3
   rw[ab h1]at h5
   rw[h5]
   simp [sy]
  have hNN:=h.pN
  refine sV (0) (fun i=>lW t L-i) (mkB 59 576451956210401280) (fun i=>i<lW t L) (fun i=>[]) (fun i=>[(5,[.own 3 0 L.length,.own 4 0 L.length,.own 8 0 (i*wd)]),(7,iv (ac (aS t L) (i:Int))),(8,iv (gath t.data wd (c9 t L) i))]) (hi:=by omega) (h1:=by first | (simp only[go_sem,seval,reduceCtorEq,nz,na,n1,hd0,gath,Nat.zero_mul];first | done | rfl) | rfl) (h2:=by first | (simp only[go_sem,seval,reduceCtorEq,nz,na,n1,hd0,gath,Nat.zero_mul];first | done | rfl) | rfl) (hr:=fun i hi=> ?_)
  unfold ii
  have hdl:(ac (aS t L) i).length=L.length:=by simp [aZ,hpl]
  have hdl2:(ac (aS t L) (i+1)).length=L.length:=by simp [aZ,hpl]
  have ht1:List.take L.length (L.map (ai t.labels t.dims))=L.map (ai t.labels t.dims):=zt (by simp)
  have ht2:List.take L.length (ac (aS t L) i)=ac (aS t L) i:=zt (by omega)
  have ht3:List.take L.length (aS t L)=aS t L:=zt (by omega)
  have hoff:=(h.off i).1
  have hcut:=h.cut i
  have hst:=kC (wd:=wd) hi
  have hNn:lW t L*wd≤n*wd:=Nat.mul_le_mul_right wd (by omega)
  have hdl3:=h.dl
  have hgl:(gath t.data wd (c9 t L) i).length=i*wd:=n5 fun q _=>h.cut q
  have hwb:=h.w1
  have hofn:=(h.off i).2.1
  simp only[go_sem,seval,reduceCtorEq]
  (refine dP (tq (a:=L.map (ai t.labels t.dims)) (b:=ac (aS t L) i) (by simp [hdl]) (by simp;omega) (fun q _=>h.dotb i q)) ?_ ?_ ?_;(focus (simp only[go_sem,seval,reduceCtorEq,ht1,ht2,hdl];done));(first | rfl | (focus (simp only[go_sem];done))))
  simp only[go_sem,seval,reduceCtorEq,hoff]
  (refine zD (r9 (t:=t) (x:=c9 t L i) hw (by omega) hcut (by omega) (by omega)) ?_)
  have hcl:=fw hcut
  have hcd:wd≤((t.data.drop (c9 t L i*wd)).take wd).length:=by omega
  have htt:List.take wd (List.take wd (List.drop (c9 t L i*wd) t.data))=List.take wd (List.drop (c9 t L i*wd) t.data):=zt (by omega)
  simp(disch:=omega) only[go_sem,seval,reduceCtorEq,hcl,hgl,htt]
  refine⟨by omega, ?_⟩
  (refine eD [7] false (sg (ds:=aS t L) (n:=i) (fun d hd=>by have:=h.dbd d hd;omega) (by omega) (by omega)) (zd rfl) ?_ ?_ ?_ ?_ (zd rfl) ?_;(focus (simp only[go_sem,seval,reduceCtorEq,hpl,ht3,hdl,hdl2];done));(focus (simp only[go_sem,seval,reduceCtorEq];done));(focus (simp only[go_sem,seval,reduceCtorEq,hpl,ht3,hdl,hdl2];done));(focus (simp only[go_sem,seval,reduceCtorEq];done)))
  by_cases hlast:i+1<lW t L
  ·have hde:decide (((i:Int)+1) % aa (aS t L)≠0)=true:=by
    rw[hNN,Int.emod_eq_of_lt (by omega) (by omega)]
    exact decide_eq_true (by omega)
   simp(disch:=omega) only[go_sem,seval,reduceCtorEq,hde]
   (refine NextS.drop (mkB 59 576451956210401280) (i+1) (by omega) (by omega) (h1:= ?_) (h2:= ?_)<;>first | (simp only[go_sem,seval,reduceCtorEq,nz,na,n1,gath,Nat.add_mul,Nat.one_mul];first | done | rfl) | rfl | skip)
  ·have hde:decide (((i:Int)+1) % aa (aS t L)≠0)=false:=by
    have:(i:Int)+1=lW t L:=by omega
    rw[hNN,this,Int.emod_self]
    rfl
   have hN1:lW t L=i+1:=by omega
   have hst1:(i+1)*wd=i*wd+wd:=by rw[Nat.add_mul,Nat.one_mul]
   have hgl2:(gath t.data wd (c9 t L) (i+1)).length=i*wd+wd:=by rw[n5 fun q _=>h.cut q,hst1]
   simp(disch:=omega) only[go_sem,seval,reduceCtorEq,hde]
   refine FnEnd.wk Wk.nogA ?_
   (refine zE ?_ ?_<;>try simp only[go_sem,seval,reduceCtorEq])
   rw[gath]at hgl2
   all_goals simp only[fB,hN1,hpl,hgl2,gath]
set_option maxRecDepth 100000
set_option maxRecDepth 100000
def kB (r:Rg) (t:Ten) (L:List Int):Bool:=aD r t.labels t.dims t.data&&lV t.labels L
def se (r:Rg) (t:Ten) (L:List Int):Ten:=if kB r t L=true then fB (ah r).toNat t L else ⟨[],[],[]⟩
theorem IH {r:Rg} {t:Ten} {L:List Int} (h:aD r t.labels t.dims t.data=true) (h2:lV t.labels L=true):∃ wd n:Nat,ah r=wd∧aa t.dims=n∧PermOk t L wd n:=by
 obtain⟨wd,n,e1,e2,e3,e4,e5,e6,e7,e8,e9,e10⟩:=dX h
 exact⟨wd,n,e1,e2,e10,e2,⟨e5,e6⟩,⟨e3,e4⟩,e7,h2⟩
theorem Eg {r:Rg} {t:Ten} {L:List Int} (h:kB r t L=true):∃ wd n:Nat,ah r=wd∧aa t.dims=n∧PermOk t L wd n:=by
 simp only[kB,Bool.and_eq_true]at h
 exact IH h.1 h.2
theorem w8 {r:Rg} {t:Ten} {L:List Int} {wd:Nat} (h:kB r t L=true) (h1:ah r=wd):se r t L=fB wd t L:=by
 rw[se,if_pos h,h1];rfl
theorem rF {kk pp nn:Int} {t:Ten} {L:List Int} (a:I64 kk) (b:I64 pp) (c:I64 nn) (h:TSz 1048576 t) (hL:Sz 1048576 L):
  Does Tryz.prog 85 [bm kk pp nn,tenA t,.d (ints L)] [] (.tup [ownT 0 (se ⟨kk,pp,nn⟩ t L),.d (.bool (kB ⟨kk,pp,nn⟩ t L))]) (stoF (se ⟨kk,pp,nn⟩ t L)):=by
 (refine spec_of (by kernel_rfl) Tryz.func85 mW (fnOk (nb rfl) ?_);unfold fT)
 (simp only[Nat.reduceSub,Zl,zn,Nat.reduceAdd,zF];try simp only[af]);(simp only[go_sem,seval,reduceCtorEq,List.replicate])
 (refine zC (eg (t:=t) a b c h.up) ?_)
 cases h1:aD ⟨kk,pp,nn⟩ t.labels t.dims t.data
 ·have e1:kB ⟨kk,pp,nn⟩ t L=false:=by simp [kB,h1]
  have e2:se ⟨kk,pp,nn⟩ t L=⟨[],[],[]⟩:=by simp [se,e1]
  simp only[go_sem,seval,reduceCtorEq,h1,e1,e2]
  refine FnEnd.wk (Wk.trans (Wk.nilS 2 0 1 _ _ _ rfl rfl) (Wk.trans (Wk.nilS 2 1 1 _ _ _ rfl rfl) (Wk.trans (Wk.nilS 2 2 1 _ _ _ rfl rfl) Wk.nogA))) ?_
  (refine zE ?_ ?_<;>try simp only[go_sem,seval,reduceCtorEq])
 simp only[go_sem,seval,reduceCtorEq,h1]
 (refine zC (q6 (ls:=t.labels) (L:=L) h.l.up.len hL.up.len) ?_)
 cases h2:lV t.labels L
 ·have e1:kB ⟨kk,pp,nn⟩ t L=false:=by simp [kB,h2]
  have e2:se ⟨kk,pp,nn⟩ t L=⟨[],[],[]⟩:=by simp [se,e1]
  simp only[go_sem,seval,reduceCtorEq,h2,e1,e2]
  refine FnEnd.wk (Wk.trans (Wk.nilS 2 0 1 _ _ _ rfl rfl) (Wk.trans (Wk.nilS 2 1 1 _ _ _ rfl rfl) (Wk.trans (Wk.nilS 2 2 1 _ _ _ rfl rfl) Wk.nogA))) ?_
  (refine zE ?_ ?_<;>try simp only[go_sem,seval,reduceCtorEq])
 have ho:kB ⟨kk,pp,nn⟩ t L=true:=by simp [kB,h1,h2]
 obtain⟨wd,n,e1,e2,hP⟩:=Eg ho
 have e3:=w8 ho e1
 simp only[go_sem,seval,reduceCtorEq,h2]
 (refine zC (xi e1 hP h hL) ?_)
 simp only[go_sem,seval,reduceCtorEq,ho,e3]
 refine FnEnd.wk Wk.nogA ?_
 (refine zE ?_ ?_<;>try simp only[go_sem,seval,reduceCtorEq])
set_option maxRecDepth 100000
end Go.Proofs.YtjfmckhbmdjnpaaGreat
