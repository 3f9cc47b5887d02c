/-
 Contracts: strides, sums of products, the next index, the index at an offset. No condition.
-/
import Derived.Test.YtobhmajhachnaaaGreatDoorCoB
import Derived.Test.YtobhmajhachnaaaGreatDoorLift28
set_option linter.unusedSimpArgs false
set_option linter.unusedVariables false
namespace Go.Proofs.YtobhmajhachnaaaGreatDoor
open Go.RowKit Go.Lift Plain
set_option maxRecDepth 100000
theorem ET(z:List AV):Go.Lift.cl 1 z=z:=by simp [Go.Lift.cl]
theorem D2(z:List AV):Go.Lift.cl 0 z=[]:=by simp [Go.Lift.cl]
theorem ES(z:List AV):Go.Lift.cl 2 z=z++z:=by simp [Go.Lift.cl,List.replicate]
attribute [go_sem high] D2 ET ES
theorem zO{a b:List Int}{k:Nat}(ha:k<a.length)(hb:k<b.length):dotI (a.take (k+1)) (b.take (k+1))=dotI (a.take k) (b.take k)+a.getD k 0*b.getD k 0:=by
 rw[ba ha,ba hb,zP _ _ _ _ (by simp;omega),ac ha,ac hb]
theorem B7{a b:List Int}(hl:a.length≤b.length)(h:∀k,k<a.length→0≤a.getD k 0*b.getD k 0∧a.getD k 0*b.getD k 0≤16777216):
  ∀k,k≤a.length→0≤dotI (a.take k) (b.take k)∧dotI (a.take k) (b.take k)≤16777216*k
 |0,_=>by simp [dotI]
 |k+1,hk=>by
  have:=B7 hl h k (by omega);have:=h k (by omega);rw[zO (by omega) (by omega)]
  push_cast
  omega
theorem tn{a b:List Int}(hl:a.length=b.length)(hn:a.length≤1048576)(h:∀k,k<a.length→0≤a.getD k 0*b.getD k 0∧a.getD k 0*b.getD k 0≤16777216):
  Does Tryz.prog 152 [.d (ints a),.d (ints b)] [] (.d (.int (dotI a b))) []:=by
 have hbd:=B7 (Nat.le_of_eq hl) h;refine zS Tryz.func152 AN ?_;unfold tQ;refine zT ?_;refine aA (a.length) (mkB 25 16776256) (fun k=>[(5,.d (.int (dotI (a.take k) (b.take k)))),(9,.d (.int k))]) (fun k=>[]) (h1:=by first|(simp only[go_sem,seval,reduceCtorEq,nz,na,n1,List.take_zero,dotI];first|done|rfl)|rfl) (h2:=by first|(simp only[go_sem,seval,reduceCtorEq,nz,na,n1,List.take_zero,dotI];first|done|rfl)|rfl) (hr:=fun k hk=> ?_);unfold qK;have hb0:=hbd k hk;by_cases hlt:k<a.length
 ·have h1:(k:Int)<a.length:=by omega
  have h2:(k:Int)<b.length:=by omega
  have ha:a[k]? =some (a.getD k 0):=by rw[ac hlt];exact zg hlt
  have hb:b[k]? =some (b.getD k 0):=by rw[ac (by omega)];exact zg (by omega)
  have hk1:=h k hlt;have hs:=zO hlt (show k<b.length by omega);simp(disch:=omega) only[go_sem,seval,reduceCtorEq,h1,h2,ha,hb];(refine Next.drop (mkB 25 16776256) (by omega) (h1:= ?_) (h2:= ?_)<;>first|(simp only[go_sem,seval,reduceCtorEq,nz,na,n1,hs];first|done|rfl)|rfl|skip)
 ·have h1:¬(k:Int)<a.length:=by omega
  have e1:a.take k=a:=zt (by omega);have e2:b.take k=b:=zt (by omega);simp(disch:=omega) only[go_sem,seval,reduceCtorEq,h1,e1,e2];exact zX
theorem eS{t:Ten}{L:List Int}(ha:axOk t.labels t.dims)(hp:aa t.dims≤4096)(hL:L.length≤1048576):
  Does Tryz.prog 150 [tenA t,.d (ints L)] [] (.own 0 0 L.length) [some ⟨1,true,iv (L.map (ah t.labels t.dims))⟩]:=by
 have l1:=ha.1;have l2:=ha.len;have hdm:=ha.dim;generalize hls:t.labels=ls at*;generalize hds:t.dims=ds at*;have hstep:∀i,1≤aa (ds.drop i)∧aa (ds.drop i)≤4096:=fun i=>by
  have h1:=aW (ds.drop i) (fun d hd=>(hdm d (List.mem_of_mem_drop hd)).1);have h2:=aW (ds.take i) (fun d hd=>(hdm d (List.mem_of_mem_take hd)).1);have h3:=dZ (ds.take i) (ds.drop i);rw[List.take_append_drop]at h3;have h4:aa (ds.drop i)≤aa (ds.take i)*aa (ds.drop i):=by
   have:=Int.mul_le_mul_of_nonneg_right h2 (show 0≤aa (ds.drop i)by omega);omega
  omega
 refine zS Tryz.func150 uq ?_;unfold my;refine zT ?_;simp only[hls,hds];refine⟨by omega, ?_⟩;simp(disch:=omega) only[go_sem,seval,reduceCtorEq,hls,hds];have h00:L.map (ah (ls.drop (ds.length-0)) (ds.drop (ds.length-0)))=List.replicate L.length 0:=by
  have:ls.drop (ds.length-0)=[]:=List.drop_eq_nil_of_le (by omega);rw[this];refine List.ext_getElem (by simp) fun i h1 h2=> ?_
  simp [ah]
 have h01:aa (ds.drop (ds.length-0))=1:=by
  have:ds.drop (ds.length-0)=[]:=List.drop_eq_nil_of_le (by omega);rw[this];rfl
 refine aA (ds.length) (mkB 48 140737488225024) (fun k=>[(6,.d (.int (aa (ds.drop (ds.length-k))))),(7,.d (.int (ds.length-1-k)))]) (fun k=>[(1,iv (L.map (ah (ls.drop (ds.length-k)) (ds.drop (ds.length-k)))))]) (h1:=by first|(simp only[go_sem,seval,reduceCtorEq,nz,na,n1,h00,h01,Int.sub_zero];first|done|rfl)|rfl) (h2:=by first|(simp only[go_sem,seval,reduceCtorEq,nz,na,n1,h00,h01,Int.sub_zero];first|done|rfl)|rfl) (hr:=fun k hk=> ?_);unfold kR;by_cases hlt:k<ds.length
 ·obtain⟨i,hi⟩:∃i,ds.length=k+1+i:=⟨ds.length-k-1,by omega⟩
  have e7:(ds.length:Int)-1-k=i:=by omega
  have e8:ds.length-k=i+1:=by omega
  have c1:(0:Int)≤i:=by omega
  have c1':(i:Int)≥0:=by omega
  rw[e8];simp only[go_sem,seval,reduceCtorEq,e7,c1'];have hil:i<ls.length:=by omega
  have hid:i<ds.length:=by omega
  have c2:(i:Int)<ls.length:=by omega
  have c3:(i:Int)<ds.length:=by omega
  have gl:ls[i]? =some ls[i]:=zg hil;have gd:ds[i]? =some ds[i]:=zg hid;have el:ls.drop i=ls[i] :: ls.drop (i+1):=List.drop_eq_getElem_cons hil;have ed:ds.drop i=ds[i] :: ds.drop (i+1):=List.drop_eq_getElem_cons hid;have hst:∀x,ah (ls.drop i) (ds.drop i) x=if x=ls[i] then aa (ds.drop (i+1)) else ah (ls.drop (i+1)) (ds.drop (i+1)) x:=fun x=>by rw[el,ed,ah]
  have hpr:aa (ds.drop (i+1))*ds[i]=aa (ds.drop i):=by rw[ed,bi,Int.mul_comm]
  have hsi:=hstep i;have hml:(L.map (ah (ls.drop i) (ds.drop i))).length=(L.map (ah (ls.drop (i+1)) (ds.drop (i+1)))).length:=by simp
  refine aA (L.length) (mkB 48 1099494851328) (fun j=>[(23,.d (.int j))]) (fun j=>[(1,iv (mix (L.map (ah (ls.drop i) (ds.drop i))) (L.map (ah (ls.drop (i+1)) (ds.drop (i+1)))) j))]) (h1:=by first|(simp only[go_sem,seval,reduceCtorEq,nz,na,n1,cA];first|done|rfl)|rfl) (h2:=by first|(simp only[go_sem,seval,reduceCtorEq,nz,na,n1,cA];first|done|rfl)|rfl) (hr:=fun j hj=> ?_);unfold kY;by_cases hltj:j<L.length
  ·have h1:(j:Int)<L.length:=by omega
   have gL:L[j]? =some L[j]:=zg hltj;have hmx:(L.map (ah (ls.drop i) (ds.drop i)))[j]? =some (ah (ls.drop i) (ds.drop i) L[j]):=by simp [hltj]
   have hmn:=gE hml hmx;have hlen:(mix (L.map (ah (ls.drop i) (ds.drop i))) (L.map (ah (ls.drop (i+1)) (ds.drop (i+1)))) j).length=L.length:=by rw[kD hml];simp
   by_cases hx:L[j]=ls[i]
   ·have hxe:(L[j]==ls[i])=true:=by simp [hx]
    have hv:=hst L[j];rw[if_pos hx]at hv;simp(disch:=omega) only[go_sem,seval,reduceCtorEq,h1,gL,gl,c1,c2,hxe];refine⟨by rw[hlen];omega, ?_⟩;rw[hv]at hmn;(refine Next.drop (mkB 48 1099494851328) (by omega) (h1:= ?_) (h2:= ?_)<;>first|(simp only[go_sem,seval,reduceCtorEq,nz,na,n1,hmn];first|done|rfl)|rfl|skip)
   ·have hxe:(L[j]==ls[i])=false:=by simp [hx]
    have hv:=hst L[j];rw[if_neg hx]at hv;have e2:mix (L.map (ah (ls.drop i) (ds.drop i))) (L.map (ah (ls.drop (i+1)) (ds.drop (i+1)))) (j+1)=mix (L.map (ah (ls.drop i) (ds.drop i))) (L.map (ah (ls.drop (i+1)) (ds.drop (i+1)))) j:=by
     rw[← hmn,cW (by rw[hlen];omega)];refine List.ext_getElem? fun q=> ?_
     rw[List.getElem?_set];split
     ·rename_i hq
      subst hq;rw[if_pos (by rw[hlen];omega),Et hml,if_neg (Nat.lt_irrefl _),hv];simp [hltj]
     ·rfl
    simp(disch:=omega) only[go_sem,seval,reduceCtorEq,h1,gL,gl,c1,c2,hxe];(refine Next.drop (mkB 48 1099494851328) (by omega) (h1:= ?_) (h2:= ?_)<;>first|(simp only[go_sem,seval,reduceCtorEq,nz,na,n1,e2];first|done|rfl)|rfl|skip)
  ·have h1:¬(j:Int)<L.length:=by omega
   have hf:mix (L.map (ah (ls.drop i) (ds.drop i))) (L.map (ah (ls.drop (i+1)) (ds.drop (i+1)))) j=L.map (ah (ls.drop i) (ds.drop i)):=ji (by simp;omega) (by simp;omega);have e9:ds.length-(k+1)=i:=by omega
   have e10:(ds.length:Int)-1-(↑k+1)=i-1:=by omega
   simp(disch:=omega) only[go_sem,seval,reduceCtorEq,h1,c1,c3,gd,hf,hpr];(refine Next.drop (mkB 48 140737488225024) (by omega) (h1:= ?_) (h2:= ?_)<;>first|(simp only[go_sem,seval,reduceCtorEq,nz,na,n1,e9,e10];first|done|rfl)|rfl|skip)
 ·have hk':k=ds.length:=by omega
  have c1:¬(ds.length:Int)-1-k≥0:=by omega
  have e0:ds.length-k=0:=by omega
  simp(disch:=omega) only[go_sem,seval,reduceCtorEq,c1,e0];exact zX
theorem oC{ds:List Int}{n:Int}(hd:∀d∈ds,1≤d∧d≤1000)(hl:ds.length≤1048576)(h0:0≤n):
  Does Tryz.prog 153 [.d (ints ds),.own 0 0 ds.length] [some ⟨1,false,iv (ab ds n)⟩] (.d (.bool (decide ((n+1) % aa ds≠0)))) [some ⟨1,false,iv (ab ds (n+1))⟩]:=by
 have hd1:∀d∈ds,1≤d:=fun d h=>(hd d h).1
 have hdl:=aJ ds n;have hdl1:=aJ ds (n+1);refine zS Tryz.func153 uv ?_;unfold mC;refine zT ?_;refine zV ?_;have hz:(ab ds n).take (ds.length-0)++(ab ds (n+1)).drop (ds.length-0)=ab ds n:=by
  rw[Nat.sub_zero,zt (by omega),List.drop_eq_nil_of_le (by omega),List.append_nil]
 refine cI (ds.length) (mkB 31 2147483152) (fun k=>(n+1) % aa (ds.drop (ds.length-k))=0) (fun k=>[(5,.d (.int (ds.length-1-k)))]) (fun k=>[(0,iv ((ab ds n).take (ds.length-k)++(ab ds (n+1)).drop (ds.length-k)))]) (hi:=by simp [aa,Int.emod_one]) (h1:=by first|(simp only[go_sem,seval,reduceCtorEq,nz,na,n1,hz,Int.sub_zero];first|done|rfl)|rfl) (h2:=by first|(simp only[go_sem,seval,reduceCtorEq,nz,na,n1,hz,Int.sub_zero];first|done|rfl)|rfl) (hr:=fun k hk hi=> ?_);unfold l5;by_cases hlt:k<ds.length
 ·obtain⟨i,hik⟩:∃i,ds.length=k+1+i:=⟨ds.length-k-1,by omega⟩
  have e7:(ds.length:Int)-1-k=i:=by omega
  have e8:ds.length-k=i+1:=by omega
  have c1:(i:Int)≥0:=by omega
  have hid:i<ds.length:=by omega
  have c3:(i:Int)<ds.length:=by omega
  rw[e8]at hi ⊢;have hst:=CT hd1 hid hi;have hkeep:=vp ds n i hd1;have gd:ds[i]? =some (ds.getD i 0):=by rw[ac hid];exact zg hid
  have hdi:=hd ds[i] (List.getElem_mem hid);rw[← ac hid]at hdi;have hbd:=g8 ds n hd1 i hid;have hCl:((ab ds n).take (i+1)++(ab ds (n+1)).drop (i+1)).length=ds.length:=by simp;omega
  have hCi:((ab ds n).take (i+1)++(ab ds (n+1)).drop (i+1))[i]? =some ((ab ds n).getD i 0):=by
   rw[List.getElem?_append_left (by simp;omega),List.getElem?_take,if_pos (by omega),ac (by omega)];exact zg (by omega)
  have hCs:∀v,((ab ds n).take (i+1)++(ab ds (n+1)).drop (i+1)).set i v=(ab ds n).take i++v :: (ab ds (n+1)).drop (i+1):=fun v=>by
   rw[← cW (by omega)];have h1:((ab ds n).take (i+1)++(ab ds (n+1)).drop (i+1)).take i=(ab ds n).take i:=by
    rw[List.take_append_of_le_length (by simp;omega),List.take_take,Nat.min_eq_left (by omega)]
   have h2:((ab ds n).take (i+1)++(ab ds (n+1)).drop (i+1)).drop (i+1)=(ab ds (n+1)).drop (i+1):=by
    rw[List.drop_append_of_le_length (by simp;omega),List.drop_eq_nil_of_le (by simp;omega),List.nil_append]
   rw[h1,h2,List.append_assoc];rfl
  generalize (ab ds n).take (i+1)++(ab ds (n+1)).drop (i+1)=C at*;have hput:∀v:Int,C.take i++[v]++C.drop (i+1)=C.set i v:=fun v=>cW (by omega)
  have hput2:∀v w:Int,(C.set i v).take i++[w]++(C.set i v).drop (i+1)=C.set i w:=fun v w=>by rw[cW (by simp;omega),List.set_set]
  have hget:∀v:Int,(C.set i v)[i]? =some v:=fun v=>by rw[List.getElem?_set,if_pos rfl,if_pos (by omega)]
  have hcl:i+1≤C.length:=by omega
  have hsp:(ab ds (n+1)).drop i=(ab ds (n+1)).getD i 0 :: (ab ds (n+1)).drop (i+1):=by rw[ac (by omega)];exact List.drop_eq_getElem_cons (by omega)
  simp(disch:=omega) only[go_sem,seval,reduceCtorEq,e7,c1,c3,gd,hCi,hput,hget,hput2,hcl,List.length_set];by_cases h3:(ab ds n).getD i 0+1<ds.getD i 0
  ·obtain⟨h4,h5⟩:=hst.1 h3
   have hne:(n+1) % aa ds≠0:=by
    intro e;refine h4 ?_;have hdvd:aa (ds.drop i) ∣ aa ds:=by
     have:=dZ (ds.take i) (ds.drop i);rw[List.take_append_drop]at this;rw[this];exact Int.dvd_mul_left _ _
    exact Int.emod_eq_zero_of_dvd (Int.dvd_trans hdvd (Int.dvd_of_emod_eq_zero e))
   have hfin:C.set i ((ab ds n).getD i 0+1)=ab ds (n+1):=by
    rw[hCs, ← hkeep h4 (by omega), ← h5, ← hsp,List.take_append_drop]
   simp(disch:=omega) only[go_sem,seval,reduceCtorEq,h3,hfin];(refine zE ?_ ?_<;>try simp only[go_sem,seval,reduceCtorEq]);rw[decide_eq_true hne]
  ·obtain⟨h4,h5⟩:=hst.2 h3
   have e9:ds.length-(k+1)=i:=by omega
   have e10:(ds.length:Int)-1-(↑k+1)=i-1:=by omega
   rw[h5]at hsp;simp(disch:=omega) only[go_sem,seval,reduceCtorEq,h3];have hI:(n+1) % aa (ds.drop (ds.length-(k+1)))=0:=by rw[e9];exact h4
   refine⟨c3,by simp;omega, ?_⟩;have hf0:∀v:Int,(C.set i v).take i++[0]++(C.set i v).drop (i+1)=(ab ds n).take i++(ab ds (n+1)).drop i:=fun v=>by rw[hput2,hCs, ← hsp]
   (refine NextI.drop (mkB 31 2147483152) (by omega) (hI) (h1:= ?_) (h2:= ?_)<;>first|(simp only[go_sem,seval,reduceCtorEq,nz,na,n1,e9,e10,hf0];first|done|rfl)|rfl|skip)
 ·have hk':ds.length-k=0:=by omega
  have c1:¬(ds.length:Int)-1-k≥0:=by omega
  rw[hk']at hi ⊢;simp(disch:=omega) only[go_sem,seval,reduceCtorEq,c1];(refine zE ?_ ?_<;>try simp only[go_sem,seval,reduceCtorEq]);have:(n+1) % aa ds=0:=hi;rw[this];rfl
theorem Ds{ds:List Int}{n:Int}(hd:∀d∈ds,1≤d∧d≤1000)(hl:ds.length≤1048576)(h0:0≤n∧n≤1152921504606846976):
  Does Tryz.prog 82 [.d (ints ds),.d (.int n)] [] (.own 0 0 ds.length) [some ⟨1,true,iv (ab ds n)⟩]:=by
 have hd1:∀d∈ds,1≤d:=fun d h=>(hd d h).1
 have hdl:=aJ ds n;have hpp:∀i,1≤aa (ds.drop i):=fun i=>aW _ (fun d h=>hd1 d (List.mem_of_mem_drop h))
 refine zS Tryz.func82 vC ?_;unfold nR;refine zT ?_;refine⟨by omega, ?_⟩;refine zV ?_;have hz:(List.replicate ds.length (0:Int)).take (ds.length-0)++(ab ds n).drop (ds.length-0)=List.replicate ds.length 0:=by
  rw[Nat.sub_zero,zt (by simp),List.drop_eq_nil_of_le (by omega),List.append_nil]
 have hz2:n / aa (ds.drop (ds.length-0))=n:=by simp [aa]
 refine aA (ds.length) (mkB 33 4294959104) (fun k=>[(1,.d (.int (n / aa (ds.drop (ds.length-k))))),(6,.d (.int (ds.length-1-k)))]) (fun k=>[(0,iv ((List.replicate ds.length (0:Int)).take (ds.length-k)++(ab ds n).drop (ds.length-k)))]) (h1:=by first|(simp only[go_sem,seval,reduceCtorEq,nz,na,n1,hz,hz2,Int.sub_zero];first|done|rfl)|rfl) (h2:=by first|(simp only[go_sem,seval,reduceCtorEq,nz,na,n1,hz,hz2,Int.sub_zero];first|done|rfl)|rfl) (hr:=fun k hk=> ?_);unfold mj;by_cases hlt:k<ds.length
 ·obtain⟨i,hik⟩:∃i,ds.length=k+1+i:=⟨ds.length-k-1,by omega⟩
  have e7:(ds.length:Int)-1-k=i:=by omega
  have e8:ds.length-k=i+1:=by omega
  have c1:(i:Int)≥0:=by omega
  have hid:i<ds.length:=by omega
  have c3:(i:Int)<ds.length:=by omega
  rw[e8];have gd:ds[i]? =some ds[i]:=zg hid;have hdi:=hd ds[i] (List.getElem_mem hid);have hne:ds[i]≠0:=by omega
  have hP:=hpp (i+1);have hq:0≤n / aa (ds.drop (i+1)):=Int.ediv_nonneg h0.1 (by omega);have hqb:n / aa (ds.drop (i+1))≤n:=Int.ediv_le_self _ h0.1;have hdg:(n / aa (ds.drop (i+1))).tmod ds[i]=(ab ds n).getD i 0:=by rw[tm hq,eP _ _ _ hid,p5,ac hid]
  have hdv:(n / aa (ds.drop (i+1))).tdiv ds[i]=n / aa (ds.drop i):=by
   rw[Int.tdiv_eq_ediv_of_nonneg hq, ← yP ds n i hid hd1,ac hid]
  have hdvb:0≤n / aa (ds.drop i):=Int.ediv_nonneg h0.1 (by have:=hpp i;omega);have hdvc:n / aa (ds.drop i)≤n:=Int.ediv_le_self _ h0.1;have hCl:((List.replicate ds.length (0:Int)).take (i+1)++(ab ds n).drop (i+1)).length=ds.length:=by simp;omega
  have hCs:((List.replicate ds.length (0:Int)).take (i+1)++(ab ds n).drop (i+1)).take i++[(ab ds n).getD i 0]++((List.replicate ds.length (0:Int)).take (i+1)++(ab ds n).drop (i+1)).drop (i+1)=(List.replicate ds.length (0:Int)).take i++(ab ds n).drop i:=by
   have h1:((List.replicate ds.length (0:Int)).take (i+1)++(ab ds n).drop (i+1)).take i=(List.replicate ds.length (0:Int)).take i:=by
    rw[List.take_append_of_le_length (by simp;omega),List.take_take,Nat.min_eq_left (by omega)]
   have h2:((List.replicate ds.length (0:Int)).take (i+1)++(ab ds n).drop (i+1)).drop (i+1)=(ab ds n).drop (i+1):=by
    rw[List.drop_append_of_le_length (by simp;omega),List.drop_eq_nil_of_le (by simp;omega),List.nil_append]
   rw[h1,h2,List.append_assoc,ac (by omega),List.singleton_append, ← List.drop_eq_getElem_cons]
  generalize (List.replicate ds.length (0:Int)).take (i+1)++(ab ds n).drop (i+1)=C at*;have hcl:i+1≤C.length:=by omega
  have e9:ds.length-(k+1)=i:=by omega
  have e10:(ds.length:Int)-1-(↑k+1)=i-1:=by omega
  simp(disch:=omega) only[go_sem,seval,reduceCtorEq,e7,c1,c3,gd,hne,hdg,hdv,hcl,ne_eq,not_false_eq_true];(refine Next.drop (mkB 33 4294959104) (by omega) (h1:= ?_) (h2:= ?_)<;>first|(simp only[go_sem,seval,reduceCtorEq,nz,na,n1,e9,e10,hCs];first|done|rfl)|rfl|skip)
 ·have hk':ds.length-k=0:=by omega
  have c1:¬(ds.length:Int)-1-k≥0:=by omega
  rw[hk'];simp(disch:=omega) only[go_sem,seval,reduceCtorEq,c1];exact zX
set_option maxRecDepth 100000
def aM(t:Ten)(L:List Int):List Int:=L.map (ao t)
def ci(t:Ten)(L:List Int)(i:Nat):Nat:=(dotI (L.map (ah t.labels t.dims)) (ab (aM t L) i)).toNat
def lT(t:Ten)(L:List Int):Nat:=(aa (aM t L)).toNat
def cq(wd:Nat)(t:Ten)(L:List Int):Ten:=⟨L,aM t L,gath t.data wd (ci t L) (lT t L)⟩
structure PermOk(t:Ten)(L:List Int)(wd n:Nat):Prop where
 ax:axOk t.labels t.dims
 pn:aa t.dims=n
 n1:1≤n∧n≤4096
 w1:1≤wd∧wd≤6
 dl:t.data.length=n*wd
 same:lO t.labels L=true
namespace PermOk
variable {t : Ten} {L : List Int} {wd n : Nat}
theorem len(h:PermOk t L wd n):L.length=t.labels.length:=(zd h.same).1
theorem sub(h:PermOk t L wd n):∀x∈L,x∈t.labels:=fun x hx=>by
 obtain⟨k,hk,rfl⟩:=List.mem_iff_getElem.1 hx
 exact((zd h.same).2 k hk).1
theorem nodup(h:PermOk t L wd n):L.Nodup:=fp fun k hk=>((zd h.same).2 k hk).2
theorem sup(h:PermOk t L wd n):∀x∈t.labels,x∈L:=wA h.nodup h.sub (Nat.le_of_eq h.len.symm)
theorem len12(h:PermOk t L wd n):L.length≤12:=by have:=h.len;have:=h.ax.1;omega
theorem dbd(h:PermOk t L wd n):∀d∈aM t L,1≤d∧d≤8:=fun d hd=>by
 simp only[aM,List.mem_map]at hd;obtain⟨x,hx,rfl⟩:=hd;exact cg h.ax (h.sub x hx)
theorem pbd(h:PermOk t L wd n):1≤aa (aM t L)∧aa (aM t L)≤n:=by
 refine⟨aW _ (fun d hd=>(h.dbd d hd).1), ?_⟩;have:=iy (f:=ao t) h.nodup h.sub (fun x hx=>(cg h.ax hx).1);rw[mc h.ax,h.pn]at this;exact this
theorem pN(h:PermOk t L wd n):aa (aM t L)=lT t L:=by have:=h.pbd;unfold lT;omega
theorem idx(h:PermOk t L wd n)(i:Nat):vj t.dims (t.labels.map (atL L (ab (aM t L) i))):=by
 refine⟨by simp [h.ax.len],fun k hk=> ?_⟩;have hk':k<t.labels.length:=by have:=h.ax.len;omega
 have hm:=h.sup t.labels[k] (List.getElem_mem hk');obtain⟨q,h1,h2,h3,h4⟩:=EP (xs:=ab (aM t L) i) hm (by simp [aJ,aM]);have h5:=g8 (aM t L) i (fun d hd=>(h.dbd d hd).1) q (by simpa [aM]using h1);have h6:(aM t L).getD q 0=t.dims.getD k 0:=by
  rw[ac (by simpa [aM]using h1),ac hk];have h7:L[q]=t.labels[k]:=by rw[zg h1]at h3;simpa using h3
  simp only[aM,List.getElem_map,h7];exact gJ h.ax hk' hk
 unfold xC;have h8:(t.labels.map (atL L (ab (aM t L) i))).getD k 0=atL L (ab (aM t L) i) t.labels[k]:=by rw[ac (by simpa using hk')];simp
 rw[h8,h4, ← h6];exact h5
theorem off(h:PermOk t L wd n)(i:Nat):dotI (L.map (ah t.labels t.dims)) (ab (aM t L) i)=ci t L i∧ci t L i<n∧offs t.dims (t.labels.map (atL L (ab (aM t L) i)))=ci t L i:=by
 have h1:=ri h.ax.len (bE h.ax) h.nodup h.sup (xs:=ab (aM t L) i) (by simp [aJ,aM]);have h2:=Eo _ _ _ h.ax (h.idx i);have h3:=h.pn;unfold ci;rw[h1];omega
theorem cut(h:PermOk t L wd n)(i:Nat):ci t L i*wd+wd≤t.data.length:=by
 rw[h.dl];exact fq (h.off i).2.1
theorem dotb(h:PermOk t L wd n)(i k:Nat):0≤(L.map (ah t.labels t.dims)).getD k 0*(ab (aM t L) i).getD k 0∧(L.map (ah t.labels t.dims)).getD k 0*(ab (aM t L) i).getD k 0≤16777216:=by
 by_cases hk:k<L.length
 ·have h1:=g8 (aM t L) i (fun d hd=>(h.dbd d hd).1) k (by simpa [aM]using hk)
  have h2:=h.dbd ((aM t L).getD k 0) (by rw[ac (by simpa [aM]using hk)];exact List.getElem_mem _);have h3:=mP t.labels t.dims L[k] (fun d hd=>(h.ax.dim d hd).1);have h4:=h.pn;have h5:=h.n1;rw[ac (show k<(L.map (ah t.labels t.dims)).length by simpa using hk),List.getElem_map];generalize (ab (aM t L) i).getD k 0=x at*;generalize ah t.labels t.dims L[k]=s at*;refine⟨Int.mul_nonneg h3.1 h1.1, ?_⟩;have:s*x≤s*8:=Int.mul_le_mul_of_nonneg_left (by omega) h3.1;omega
 ·have:(L.map (ah t.labels t.dims)).getD k 0=0:=by simp [zq,List.getElem?_eq_none (Nat.le_of_not_lt hk)]
  rw[this];simp
end PermOk
theorem sj{kk pp nn:Int}{t:Ten}{L:List Int}{wd n:Nat}(hw:af ⟨kk,pp,nn⟩=wd)(h:PermOk t L wd n)(hs:TSz 1048576 t)(hL:Sz 1048576 L):
  Does Tryz.prog 130 [aY kk pp nn,tenA t,.d (ints L)] [] (ownT 0 (cq wd t L)) (stoF (cq wd t L)):=by
 have hl12:=h.len12;have hll:=h.len;have hal:=h.ax.len;have hpl:(aM t L).length=L.length:=by simp [aM]
 have hxl:=hs.x.len;refine zS Tryz.func130 sL ?_;unfold lk;refine zT ?_;(refine zD (cj (xs:=L) (by omega)) ?_);refine zV ?_;refine⟨by omega, ?_⟩;refine aA (L.length) (mkB 59 137436857088) (fun k=>[(20,.d (.int k))]) (fun k=>[(4,iv (mix (aM t L) (List.replicate L.length 0) k))]) (h1:=by first|(simp only[go_sem,seval,reduceCtorEq,nz,na,n1,cA];first|done|rfl)|rfl) (h2:=by first|(simp only[go_sem,seval,reduceCtorEq,nz,na,n1,cA];first|done|rfl)|rfl) (hr:=fun k hk=> ?_);unfold jv;by_cases hlt:k<L.length
 ·have c1:(k:Int)<L.length:=by omega
  have g:L[k]? =some L[k]:=zg hlt;have hm:=h.sub L[k] (List.getElem_mem hlt);obtain⟨i,hi1,hi2,hi3,hi4⟩:=cH hal hm;have c2:(i:Int)<t.dims.length:=by omega
  have hmx:(aM t L)[k]? =some (ao t L[k]):=by simp [aM,hlt]
  have hmn:=gE (l:=aM t L) (r:=List.replicate L.length 0) (by simp [hpl]) hmx;have hlen:(mix (aM t L) (List.replicate L.length 0) k).length=L.length:=by rw[kD (by simp [hpl])];exact hpl
  simp(disch:=omega) only[go_sem,seval,reduceCtorEq,c1,g];(refine zD (gK (t:=t) (x:=L[k]) hs.l.up.len) ?_);simp(disch:=omega) only[go_sem,seval,reduceCtorEq,hi3,c2,hi4,c1];refine⟨by rw[hlen];omega, ?_⟩;(refine Next.drop (mkB 59 137436857088) (by omega) (h1:= ?_) (h2:= ?_)<;>first|(simp only[go_sem,seval,reduceCtorEq,nz,na,n1,hmn];first|done|rfl)|rfl|skip)
 ·have c1:¬(k:Int)<L.length:=by omega
  have hf:mix (aM t L) (List.replicate L.length 0) k=aM t L:=ji (by simp;omega) (by omega);simp(disch:=omega) only[go_sem,seval,reduceCtorEq,c1,hf];have hN:=h.pbd;have hpn:=h.pn;have hn1:=h.n1;(refine zC (eS (t:=t) (L:=L) h.ax (by omega) (by omega)) ?_);refine zV ?_;refine⟨by omega, ?_⟩;(refine bC (Wk.nilS 5 2 1 _ _ _ rfl rfl) ?_;simp only[go_sem,seval,reduceCtorEq]);have hd0:ab (aM t L) 0=List.replicate L.length 0:=by
   refine List.ext_getElem (by simp [aJ,hpl]) fun q h1 h2=> ?_
   have h3:q<(aM t L).length:=by simpa [aJ]using h1
   have h4:=h.dbd (aM t L)[q] (List.getElem_mem h3);have h5:=eP (aM t L) 0 q h3;rw[ac h1]at h5;rw[h5];simp [p5]
  have hNN:=h.pN;refine rO (0) (fun i=>lT t L-i) (mkB 59 576451956210401280) (fun i=>i<lT t L) (fun i=>[]) (fun i=>[(5,[.own 3 0 L.length,.own 4 0 L.length,.own 8 0 (i*wd)]),(7,iv (ab (aM t L) (i:Int))),(8,iv (gath t.data wd (ci t L) i))]) (hi:=by omega) (h1:=by first|(simp only[go_sem,seval,reduceCtorEq,nz,na,n1,hd0,gath,Nat.zero_mul];first|done|rfl)|rfl) (h2:=by first|(simp only[go_sem,seval,reduceCtorEq,nz,na,n1,hd0,gath,Nat.zero_mul];first|done|rfl)|rfl) (hr:=fun i hi=> ?_);unfold jT;have hdl:(ab (aM t L) i).length=L.length:=by simp [aJ,hpl]
  have hdl2:(ab (aM t L) (i+1)).length=L.length:=by simp [aJ,hpl]
  have ht1:List.take L.length (L.map (ah t.labels t.dims))=L.map (ah t.labels t.dims):=zt (by simp);have ht2:List.take L.length (ab (aM t L) i)=ab (aM t L) i:=zt (by omega);have ht3:List.take L.length (aM t L)=aM t L:=zt (by omega);have hoff:=(h.off i).1;have hcut:=h.cut i;have hst:=fq (wd:=wd) hi;have hNn:lT t L*wd≤n*wd:=Nat.mul_le_mul_right wd (by omega);have hdl3:=h.dl;have hgl:(gath t.data wd (ci t L) i).length=i*wd:=dP fun q _=>h.cut q
  have hwb:=h.w1;have hofn:=(h.off i).2.1;refine zU ?_;(refine zD (tn (a:=L.map (ah t.labels t.dims)) (b:=ab (aM t L) i) (by simp [hdl]) (by simp;omega) (fun q _=>h.dotb i q)) ?_ (by simp only[go_sem,seval,reduceCtorEq,ht1,ht2,hdl]));simp only[go_sem,seval,reduceCtorEq,hoff];(refine zD (iV (t:=t) (x:=ci t L i) hw (by omega) hcut (by omega) (by omega)) ?_);have hcl:=cK hcut;have hcd:wd≤((t.data.drop (ci t L i*wd)).take wd).length:=by omega
  have htt:List.take wd (List.take wd (List.drop (ci t L i*wd) t.data))=List.take wd (List.drop (ci t L i*wd) t.data):=zt (by omega);simp(disch:=omega) only[go_sem,seval,reduceCtorEq,hcl,hgl,htt];refine⟨by omega, ?_⟩;(refine eu [7] false (oC (ds:=aM t L) (n:=i) (fun d hd=>by have:=h.dbd d hd;omega) (by omega) (by omega)) (zd rfl) ?_ ?_ ?_ ?_ (zd rfl) ?_;(focus (simp only[go_sem,seval,reduceCtorEq,hpl,ht3,hdl,hdl2];done));(focus (simp only[go_sem,seval,reduceCtorEq];done));(focus (simp only[go_sem,seval,reduceCtorEq,hpl,ht3,hdl,hdl2];done));(focus (simp only[go_sem,seval,reduceCtorEq];done)))
  by_cases hlast:i+1<lT t L
  ·have hde:decide (((i:Int)+1) % aa (aM t L)≠0)=true:=by
    rw[hNN,Int.emod_eq_of_lt (by omega) (by omega)];exact decide_eq_true (by omega)
   simp(disch:=omega) only[go_sem,seval,reduceCtorEq,hde];(refine NextS.drop (mkB 59 576451956210401280) (i+1) (by omega) (by omega) (h1:= ?_) (h2:= ?_)<;>first|(simp only[go_sem,seval,reduceCtorEq,nz,na,n1,gath,Nat.add_mul,Nat.one_mul];first|done|rfl)|rfl|skip)
  ·have hde:decide (((i:Int)+1) % aa (aM t L)≠0)=false:=by
    have:(i:Int)+1=lT t L:=by omega
    rw[hNN,this,Int.emod_self]
    rfl
   have hN1:lT t L=i+1:=by omega
   have hst1:(i+1)*wd=i*wd+wd:=by rw[Nat.add_mul,Nat.one_mul]
   have hgl2:(gath t.data wd (ci t L) (i+1)).length=i*wd+wd:=by rw[dP fun q _=>h.cut q,hst1]
   simp(disch:=omega) only[go_sem,seval,reduceCtorEq,hde];refine FnEnd.wk Wk.nogA ?_;(refine zE ?_ ?_<;>try simp only[go_sem,seval,reduceCtorEq]);rw[gath]at hgl2
   all_goals simp only[cq,hN1,hpl,hgl2,gath]
set_option maxRecDepth 100000
set_option maxRecDepth 100000
def lU(r:Rg)(t:Ten)(L:List Int):Bool:=al r t.labels t.dims t.data&&lO t.labels L
def va(r:Rg)(t:Ten)(L:List Int):Ten:=if lU r t L=true then cq (af r).toNat t L else ⟨[],[],[]⟩
theorem Dn{r:Rg}{t:Ten}{L:List Int}(h:al r t.labels t.dims t.data=true)(h2:lO t.labels L=true):∃wd n:Nat,af r=wd∧aa t.dims=n∧PermOk t L wd n:=by
 obtain⟨wd,n,e1,e2,e3,e4,e5,e6,e7,e8,e9,e10⟩:=ct h;exact⟨wd,n,e1,e2,e10,e2,⟨e5,e6⟩,⟨e3,e4⟩,e7,h2⟩
theorem Hj{r:Rg}{t:Ten}{L:List Int}(h:lU r t L=true):∃wd n:Nat,af r=wd∧aa t.dims=n∧PermOk t L wd n:=by
 simp only[lU,Bool.and_eq_true]at h;exact Dn h.1 h.2
theorem yX{r:Rg}{t:Ten}{L:List Int}{wd:Nat}(h:lU r t L=true)(h1:af r=wd):va r t L=cq wd t L:=by
 rw[va,if_pos h,h1];rfl
theorem uG{kk pp nn:Int}{t:Ten}{L:List Int}(a:I64 kk)(b:I64 pp)(c:I64 nn)(h:TSz 1048576 t)(hL:Sz 1048576 L):
  Does Tryz.prog 123 [aY kk pp nn,tenA t,.d (ints L)] [] (.tup [ownT 0 (va ⟨kk,pp,nn⟩ t L),.d (.bool (lU ⟨kk,pp,nn⟩ t L))]) (stoF (va ⟨kk,pp,nn⟩ t L)):=by
 refine zS Tryz.func123 oO ?_;unfold gY;refine zT ?_;(refine zC (bM (t:=t) a b c h.up) ?_);cases h1:al ⟨kk,pp,nn⟩ t.labels t.dims t.data
 ·have e1:lU ⟨kk,pp,nn⟩ t L=false:=by simp [lU,h1]
  have e2:va ⟨kk,pp,nn⟩ t L=⟨[],[],[]⟩:=by simp [va,e1]
  simp only[go_sem,seval,reduceCtorEq,h1,e1,e2];refine FnEnd.wk (Wk.trans (Wk.nilS 2 0 1 _ _ _ rfl rfl) (Wk.trans (Wk.nilS 2 1 1 _ _ _ rfl rfl) (Wk.trans (Wk.nilS 2 2 1 _ _ _ rfl rfl) Wk.nogA))) ?_;exact zX
 simp only[go_sem,seval,reduceCtorEq,h1];(refine zC (sf (ls:=t.labels) (L:=L) h.l.up.len hL.up.len) ?_);cases h2:lO t.labels L
 ·have e1:lU ⟨kk,pp,nn⟩ t L=false:=by simp [lU,h2]
  have e2:va ⟨kk,pp,nn⟩ t L=⟨[],[],[]⟩:=by simp [va,e1]
  simp only[go_sem,seval,reduceCtorEq,h2,e1,e2];refine FnEnd.wk (Wk.trans (Wk.nilS 2 0 1 _ _ _ rfl rfl) (Wk.trans (Wk.nilS 2 1 1 _ _ _ rfl rfl) (Wk.trans (Wk.nilS 2 2 1 _ _ _ rfl rfl) Wk.nogA))) ?_;exact zX
 have ho:lU ⟨kk,pp,nn⟩ t L=true:=by simp [lU,h1,h2]
 obtain⟨wd,n,e1,e2,hP⟩:=Hj ho;have e3:=yX ho e1;simp only[go_sem,seval,reduceCtorEq,h2];(refine zC (sj e1 hP h hL) ?_);simp only[go_sem,seval,reduceCtorEq,ho,e3];refine FnEnd.wk Wk.nogA ?_;exact zX
theorem Di{r:Rg}{t:Ten}{L:List Int}{wd n:Nat}(hf:fits r t.data):fits r (cq wd t L).data:=eK fun x hx=>fA hf x (t8 x hx)
theorem Dj{t:Ten}{L:List Int}{wd n:Nat}(h:PermOk t L wd n):((cq wd t L).data.length:Int)=aa (aM t L)*wd:=by
 show ((gath t.data wd (ci t L) (lT t L)).length:Int)=_
 rw[dP fun q _=>h.cut q,h.pN]
 simp
set_option maxRecDepth 100000
set_option maxRecDepth 100000
def wo(ls:List Int)(x:Int):List Int:=ls.filter (· !=x)
theorem Am(ls:List Int)(x:Int):(wo ls x).length≤ls.length:=List.length_filter_le _ _
theorem mM{ls:List Int}{x y:Int}:y∈wo ls x↔y∈ls∧y≠x:=by simp [wo]
theorem wm:∀{ls:List Int} {j:Nat} (hj:j<ls.length),ls.Nodup→wo ls ls[j]=ls.eraseIdx j
 | [],j,h,_=>by simp at h
 |l :: ls,0,_,hn=>by
  simp only[List.nodup_cons]at hn;simp only[wo,List.getElem_cons_zero,List.filter_cons,bne_self_eq_false,Bool.false_eq_true,if_false,List.eraseIdx_cons_zero];refine List.filter_eq_self.2 fun y hy=> ?_
  simp only[bne_iff_ne,ne_eq];exact fun e=>hn.1 (e ▸ hy)
 |l :: ls,j+1,hj,hn=>by
  simp only[List.nodup_cons]at hn;have hj':j<ls.length:=by simpa using hj
  have ih:=wm hj' hn.2;have hne:l≠ls[j]:=fun e=>hn.1 (e ▸ List.getElem_mem hj')
  simp only[wo,List.getElem_cons_succ,List.filter_cons,List.eraseIdx_cons_succ];rw[if_pos (by simpa using hne), ← ih];rfl
theorem fD{α β:Type}(f:α→β):∀(l:List α) (j:Nat),(l.map f).eraseIdx j=(l.eraseIdx j).map f
 | [],_=>by simp
 |x :: l,0=>rfl
 |x :: l,j+1=>by simp [fD f l j]
structure SliOk(t:Ten)(x:Int)(v wd n j:Nat):Prop where
 ax:axOk t.labels t.dims
 pn:aa t.dims=n
 n1:1≤n∧n≤4096
 w1:1≤wd∧wd≤6
 dl:t.data.length=n*wd
 jl:j<t.labels.length
 jx:t.labels[j]? =some x
 vd:(v:Int)<t.dims.getD j 0
def sliD(t:Ten)(j:Nat):List Int:=t.dims.eraseIdx j
def sliN(t:Ten)(j:Nat):Nat:=aZ (sliD t j)
def sliR(wd:Nat)(t:Ten)(x:Int)(v j:Nat):Ten:=⟨wo t.labels x,sliD t j,gath t.data wd (offJ v t.dims j) (sliN t j)⟩
namespace SliOk
variable {t : Ten} {x : Int} {v wd n j : Nat}
theorem lx(h:SliOk t x v wd n j):t.labels[j]'h.jl=x:=by have:=h.jx;rw[zg h.jl]at this;simpa using this
theorem nodup(h:SliOk t x v wd n j):t.labels.Nodup:=bE h.ax
theorem W(h:SliOk t x v wd n j):wo t.labels x=t.labels.eraseIdx j:=by have:=wm h.jl h.nodup;rwa [h.lx]at this
theorem place(h:SliOk t x v wd n j):Plain.place t.labels x=j:=by have:=ez h.jl (dQ h.nodup h.jl);rwa [h.lx]at this
theorem jd(h:SliOk t x v wd n j):j<t.dims.length:=by have:=h.jl;have:=h.ax.len;omega
theorem len(h:SliOk t x v wd n j):(wo t.labels x).length=t.labels.length-1:=by rw[h.W,List.length_eraseIdx_of_lt h.jl]
theorem dlen(h:SliOk t x v wd n j):(sliD t j).length=(wo t.labels x).length:=by
 rw[h.len,sliD,List.length_eraseIdx_of_lt h.jd,h.ax.len]
theorem dims(h:SliOk t x v wd n j):(wo t.labels x).map (ao t)=sliD t j:=by
 rw[h.W, ← fD,mc h.ax];rfl
theorem strides(h:SliOk t x v wd n j):(wo t.labels x).map (ah t.labels t.dims)=(dE t.dims).eraseIdx j:=by
 rw[h.W, ← fD,oe _ _ h.ax.len h.nodup]
theorem stride(h:SliOk t x v wd n j):ah t.labels t.dims x=(dE t.dims).getD j 0:=by
 rw[← oe _ _ h.ax.len h.nodup,ac (by simpa using h.jl),List.getElem_map,h.lx]
theorem d1(h:SliOk t x v wd n j):∀d∈t.dims,1≤d:=fun d hd=>(h.ax.dim d hd).1
theorem dbd(h:SliOk t x v wd n j):∀d∈sliD t j,1≤d∧d≤8:=fun d hd=>h.ax.dim d (List.mem_of_mem_eraseIdx hd)
theorem pN(h:SliOk t x v wd n j):aa (sliD t j)=sliN t j∧1≤sliN t j:=gu (fun d hd=>(h.dbd d hd).1)
theorem nN(h:SliOk t x v wd n j):sliN t j≤n:=by
 have h1:=iy (f:=ao t) (L:=wo t.labels x) (ls:=t.labels) (List.Nodup.sublist List.filter_sublist h.nodup) (fun y hy=>(mM.1 hy).1) (fun y hy=>(cg h.ax hy).1);rw[mc h.ax,h.dims,h.pn]at h1;have:=h.pN;omega
theorem off(h:SliOk t x v wd n j){i:Nat}(hi:i<sliN t j):(v:Int)*ah t.labels t.dims x+dotI ((wo t.labels x).map (ah t.labels t.dims)) (ab (sliD t j) i)=offJ v t.dims j i:=by
 rw[h.stride,h.strides];exact C3 v t.dims j i h.d1 h.jd hi
theorem offn(h:SliOk t x v wd n j){i:Nat}(hi:i<sliN t j):offJ v t.dims j i<n:=by
 have h1:=vc v t.dims j h.d1 h.jd h.vd;have h2:offJ v t.dims j i∈(List.range (aZ (t.dims.eraseIdx j))).map (offJ v t.dims j):=List.mem_map.2 ⟨i,List.mem_range.2 hi,rfl⟩;rw[← h1,List.mem_filter]at h2;have h3:=(gu h.d1).1;have h4:offJ v t.dims j i<aZ t.dims:=by simpa using h2.1
 have:=h.pn;omega
theorem cut(h:SliOk t x v wd n j){i:Nat}(hi:i<sliN t j):offJ v t.dims j i*wd+wd≤t.data.length:=by
 rw[h.dl];exact fq (h.offn hi)
theorem sbd(h:SliOk t x v wd n j)(y:Int):0≤ah t.labels t.dims y∧ah t.labels t.dims y≤4096:=by
 have h1:=mP t.labels t.dims y h.d1;have:=h.pn;have:=h.n1;omega
theorem dotb(h:SliOk t x v wd n j)(i k:Nat):0≤((wo t.labels x).map (ah t.labels t.dims)).getD k 0*(ab (sliD t j) i).getD k 0∧((wo t.labels x).map (ah t.labels t.dims)).getD k 0*(ab (sliD t j) i).getD k 0≤16777216:=by
 by_cases hk:k<(wo t.labels x).length
 ·have hk2:k<(sliD t j).length:=by rw[h.dlen];exact hk
  have h1:=g8 (sliD t j) i (fun d hd=>(h.dbd d hd).1) k hk2;have h2:=h.dbd ((sliD t j).getD k 0) (by rw[ac hk2];exact List.getElem_mem _);have h3:=h.sbd (wo t.labels x)[k];rw[ac (show k<((wo t.labels x).map (ah t.labels t.dims)).length by simpa using hk),List.getElem_map];generalize (ab (sliD t j) i).getD k 0=y at*;generalize ah t.labels t.dims (wo t.labels x)[k]=s at*;refine⟨Int.mul_nonneg h3.1 h1.1, ?_⟩;have:s*y≤s*8:=Int.mul_le_mul_of_nonneg_left (by omega) h3.1;omega
 ·have:((wo t.labels x).map (ah t.labels t.dims)).getD k 0=0:=by simp [zq,List.getElem?_eq_none (Nat.le_of_not_lt hk)]
  rw[this];simp
end SliOk
def sliB(r:Rg)(t:Ten)(x v:Int):Bool:=al r t.labels t.dims t.data&&decide (x∈t.labels∧0≤v∧v<ao t x)
def sliT(r:Rg)(t:Ten)(x v:Int):Ten:=if sliB r t x v=true then sliR (af r).toNat t x v.toNat (place t.labels x).toNat else ⟨[],[],[]⟩
theorem sb{r:Rg}{t:Ten}{x v:Int}(h:sliB r t x v=true):∃u wd n j:Nat,v=u∧af r=wd∧aa t.dims=n∧SliOk t x u wd n j∧sliT r t x v=sliR wd t x u j:=by
 have ho:=h;simp only[sliB,Bool.and_eq_true,decide_eq_true_eq]at h;obtain⟨wd,n,e1,e2,e3,e4,e5,e6,e7,e8,e9,e10⟩:=ct h.1;obtain⟨j,g1,g2,g3,g4⟩:=cH e10.len h.2.1;obtain⟨j',g5,g6,g7,_⟩:=eU h.2.1;obtain rfl:j=j':=by omega
 refine⟨v.toNat,wd,n,j,by omega,e1,e2,⟨e10,e2,⟨e5,e6⟩,⟨e3,e4⟩,e7,g1,by rw[zg g1,g7], ?_⟩, ?_⟩
 ·have:t.dims.getD j 0=ao t x:=by rw[zq,g4];rfl
  omega
 ·rw[sliT,if_pos ho,e1,g3];rfl
theorem JC{r:Rg}{t:Ten}{x v:Int}(ht:TSz 1048576 t):TSz 1048576 (sliT r t x v):=by
 by_cases ho:sliB r t x v=true
 ·obtain⟨u,wd,n,j,rfl,e1,e2,h,e3⟩:=sb ho
  rw[e3];refine⟨⟨Nat.le_trans (Am _ _) ht.l.len,fun y hy=>ht.l.wf y (mM.1 hy).1⟩,⟨?_,fun d hd=> ?_⟩,⟨?_,fun y hy=>ht.x.wf y (t8 y hy)⟩⟩
  ·show (sliD t j).length≤_
   rw[h.dlen];exact Nat.le_trans (Am _ _) ht.l.len
  ·have:=h.dbd d hd
   exact⟨by omega,by omega⟩
  ·show (gath t.data wd (offJ u t.dims j) (sliN t j)).length≤_
   rw[dP fun q hq=>h.cut hq];have h1:=h.nN;have h3:=h.n1;have h4:=h.w1;have:sliN t j*wd≤4096*6:=Nat.mul_le_mul (by omega) h4.2;omega
 ·rw[sliT,if_neg ho]
  exact⟨⟨by simp,by simp⟩,⟨by simp,by simp⟩,⟨by simp,by simp⟩⟩
theorem vo:∀ds:List Int,ab ds 0=List.replicate ds.length 0
 | []=>rfl
 |d :: ds=>by rw[bN,vo ds];simp [List.replicate_succ]
theorem KI(x:Int):dv [x]=[D.int x]:=nr rfl
theorem Kp(x:Int):iv [x]=[AV.d (.int x)]:=nr rfl
theorem An{xs:List Int}{x:Int}(h:xs.length≤1099511627776):Does Tryz.prog 126 [.d (ints xs),.d (.int x)] [] (.own 0 0 (wo xs x).length) [some ⟨1,true,iv (wo xs x)⟩]:=rP h
theorem xD{kk pp nn:Int}{t:Ten}{x v:Int}(a:I64 kk)(b:I64 pp)(c:I64 nn)(h:TSz 1048576 t)(hv:I64 v):
  Does Tryz.prog 128 [aY kk pp nn,tenA t,.d (.int x),.d (.int v)] [] (.tup [ownT 0 (sliT ⟨kk,pp,nn⟩ t x v),.d (.bool (sliB ⟨kk,pp,nn⟩ t x v))]) (stoF (sliT ⟨kk,pp,nn⟩ t x v)):=by
 have hxl:=h.x.len;refine zS Tryz.func128 rx ?_;unfold kp;refine zT ?_;(refine zC (bM (t:=t) a b c h.up) ?_);cases h1:al ⟨kk,pp,nn⟩ t.labels t.dims t.data
 ·have e1:sliB ⟨kk,pp,nn⟩ t x v=false:=by simp [sliB,h1]
  have e2:sliT ⟨kk,pp,nn⟩ t x v=⟨[],[],[]⟩:=by simp [sliT,e1]
  simp only[go_sem,seval,reduceCtorEq,h1,e1,e2];refine FnEnd.wk (Wk.trans (Wk.nilS 2 0 1 _ _ _ rfl rfl) (Wk.trans (Wk.nilS 2 1 1 _ _ _ rfl rfl) (Wk.trans (Wk.nilS 2 2 1 _ _ _ rfl rfl) Wk.nogA))) ?_;exact zX
 simp only[go_sem,seval,reduceCtorEq,h1];(refine zC (gK (t:=t) (x:=x) h.l.up.len) ?_);have hax:=(bI h1).2.1;by_cases hm:x∈t.labels
 rotate_left
 ·have e1:sliB ⟨kk,pp,nn⟩ t x v=false:=by simp [sliB,hm]
  have e2:sliT ⟨kk,pp,nn⟩ t x v=⟨[],[],[]⟩:=by simp [sliT,e1]
  have e3:=gz hm;simp only[go_sem,seval,reduceCtorEq,e3,e1,e2];refine FnEnd.wk (Wk.trans (Wk.nilS 2 0 1 _ _ _ rfl rfl) (Wk.trans (Wk.nilS 2 1 1 _ _ _ rfl rfl) (Wk.trans (Wk.nilS 2 2 1 _ _ _ rfl rfl) Wk.nogA))) ?_;exact zX
 obtain⟨j,g1,g2,g3,g4⟩:=cH hax.len hm;have c1:¬(j:Int)<0:=by omega
 by_cases hv0:v<0
 ·have e1:sliB ⟨kk,pp,nn⟩ t x v=false:=by simp [sliB];omega
  have e2:sliT ⟨kk,pp,nn⟩ t x v=⟨[],[],[]⟩:=by simp [sliT,e1]
  simp only[go_sem,seval,reduceCtorEq,g3,c1,hv0,e1,e2];refine FnEnd.wk (Wk.trans (Wk.nilS 2 0 1 _ _ _ rfl rfl) (Wk.trans (Wk.nilS 2 1 1 _ _ _ rfl rfl) (Wk.trans (Wk.nilS 2 2 1 _ _ _ rfl rfl) Wk.nogA))) ?_;exact zX
 have c2:(j:Int)<t.dims.length:=by omega
 by_cases hvd:v≥ao t x
 ·have e1:sliB ⟨kk,pp,nn⟩ t x v=false:=by simp [sliB];omega
  have e2:sliT ⟨kk,pp,nn⟩ t x v=⟨[],[],[]⟩:=by simp [sliT,e1]
  simp only[go_sem,seval,reduceCtorEq,g3,c1,c2,g4,hv0,hvd,e1,e2];refine FnEnd.wk (Wk.trans (Wk.nilS 2 0 1 _ _ _ rfl rfl) (Wk.trans (Wk.nilS 2 1 1 _ _ _ rfl rfl) (Wk.trans (Wk.nilS 2 2 1 _ _ _ rfl rfl) Wk.nogA))) ?_;exact zX
 have ho:sliB ⟨kk,pp,nn⟩ t x v=true:=by simp only[sliB,h1,Bool.true_and,decide_eq_true_eq];exact⟨hm,by omega,by omega⟩
 obtain⟨u,wd,n,j',rfl,e1,e2,hS,e3⟩:=sb ho;have hjj:=hS.place;obtain rfl:j=j':=by omega
 have hwl:=Am t.labels x;have hl12:=hax.1;simp only[go_sem,seval,reduceCtorEq,g3,c1,c2,g4,hv0,hvd];(refine zC (An (xs:=t.labels) (x:=x) h.l.up.len) ?_);refine zU ?_;have hW:∀k,k<(wo t.labels x).length→∃i:Nat,i<t.dims.length∧place t.labels ((wo t.labels x).getD k 0)=i∧t.dims[i]? =some (ao t ((wo t.labels x).getD k 0)):=fun k hk=>by
  have hm:=(mM.1 (List.getElem_mem hk)).1;obtain⟨i,h1,h2,h3,h4⟩:=cH hax.len hm;rw[ac hk];exact⟨i,h2,h3,h4⟩
 have hDl:=hS.dlen;have hDs:∀k,k<(wo t.labels x).length→(sliD t j).take (k+1)=(sliD t j).take k++[ao t ((wo t.labels x).getD k 0)]:=fun k hk=>by
  rw[ba (by omega),ac hk];have:(sliD t j)[k]'(by omega)=ao t (wo t.labels x)[k]:=by
   have h1:=hS.dims;have h2:((wo t.labels x).map (ao t))[k]'(by simpa using hk)=ao t (wo t.labels x)[k]:=by simp
   rw[← h2];simp only[h1]
  rw[this]
 generalize hWg:wo t.labels x=W at*;(refine bC (Wk.nilS 4 1 1 _ _ _ rfl rfl) ?_;simp only[go_sem,seval,reduceCtorEq]);refine aA (W.length) (mkB 100 73785850394931372032) (fun k=>[(49,.d (.int k))]) (fun k=>[(4,[.own 3 0 W.length,.own 5 0 k,.nil]),(5,iv ((sliD t j).take k))]) (h1:=by first|(simp only[go_sem,seval,reduceCtorEq,nz,na,n1,List.take_zero,br];first|done|rfl)|rfl) (h2:=by first|(simp only[go_sem,seval,reduceCtorEq,nz,na,n1,List.take_zero,br];first|done|rfl)|rfl) (hr:=fun k hk=> ?_);unfold ig;by_cases hlt:k<W.length
 ·have d1:(k:Int)<W.length:=by omega
  have g:W[k]? =some (W.getD k 0):=by rw[ac hlt];exact zg hlt
  obtain⟨i,hi1,hi2,hi3⟩:=hW k hlt;have d2:(i:Int)<t.dims.length:=by omega
  have hD:=hDs k hlt;have l1:((sliD t j).take k).length=k:=by simp;omega
  simp(disch:=omega) only[go_sem,seval,reduceCtorEq,d1,g];(refine zD (gK (t:=t) (x:=W.getD k 0) h.l.up.len) ?_);simp(disch:=omega) only[go_sem,seval,reduceCtorEq,hi2,d2,hi3,l1];refine⟨by omega, ?_⟩;(refine Next.drop (mkB 100 73785850394931372032) (by omega) (h1:= ?_) (h2:= ?_)<;>first|(simp only[go_sem,seval,reduceCtorEq,nz,na,n1,hD];first|done|rfl)|rfl|skip)
 ·have d1:¬(k:Int)<W.length:=by omega
  have hkl:k=W.length:=by omega
  subst hkl;have htD:(sliD t j).take W.length=sliD t j:=zt (by omega);have hn1:=hS.n1;have hpn:=hS.pn;have hwb:=hS.w1;have hdl3:=hS.dl;have hsx:=hS.sbd x;have hu8:u≤8:=by
   have h1:=hS.vd;have h2:=hax.dim (t.dims.getD j 0) (by rw[ac g2];exact List.getElem_mem _);omega
  have hub:0≤(u:Int)*ah t.labels t.dims x:=Int.mul_nonneg (by omega) hsx.1;have hub2:(u:Int)*ah t.labels t.dims x≤(u:Int)*4096:=Int.mul_le_mul_of_nonneg_left hsx.2 (by omega);simp(disch:=omega) only[go_sem,seval,reduceCtorEq,d1,htD];(refine zC (eS (t:=t) (L:=W) hax (by omega) (by omega)) ?_);refine zV ?_;(refine zC (eS (t:=t) (L:=[x]) hax (by omega) (by simp)) ?_ (by simp only[go_sem,seval,reduceCtorEq,KI]));simp(disch:=omega) only[go_sem,seval,reduceCtorEq,List.map_cons,List.map_nil,Kp];refine⟨by omega, ?_⟩;(refine bC (Wk.nilS 4 2 1 _ _ _ rfl rfl) ?_;simp only[go_sem,seval,reduceCtorEq])
  have hd0:ab (sliD t j) 0=List.replicate W.length 0:=by rw[vo,hDl]
  obtain⟨hNN,hN1⟩:=hS.pN;have hNn0:=hS.nN;refine rO (0) (fun i=>sliN t j-i) (mkB 100 1267645764524950942980004381184) (fun i=>i<sliN t j) (fun i=>[]) (fun i=>[(4,[.own 3 0 W.length,.own 5 0 W.length,.own 10 0 (i*wd)]),(9,iv (ab (sliD t j) (i:Int))),(10,iv (gath t.data wd (offJ u t.dims j) i))]) (hi:=by omega) (h1:=by first|(simp only[go_sem,seval,reduceCtorEq,nz,na,n1,hd0,gath,Nat.zero_mul,br];first|done|rfl)|rfl) (h2:=by first|(simp only[go_sem,seval,reduceCtorEq,nz,na,n1,hd0,gath,Nat.zero_mul,br];first|done|rfl)|rfl) (hr:=fun i hi=> ?_);unfold il
  have hdl:(ab (sliD t j) i).length=W.length:=by simp [aJ,hDl]
  have hdl2:(ab (sliD t j) (i+1)).length=W.length:=by simp [aJ,hDl]
  have ht1:List.take W.length (W.map (ah t.labels t.dims))=W.map (ah t.labels t.dims):=zt (by simp);have ht2:List.take W.length (ab (sliD t j) i)=ab (sliD t j) i:=zt (by omega);have hoff:=hS.off hi;have hcut:=hS.cut hi;have hst:=fq (wd:=wd) hi;have hNn:sliN t j*wd≤n*wd:=Nat.mul_le_mul_right wd hNn0;have hgl:(gath t.data wd (offJ u t.dims j) i).length=i*wd:=dP fun q hq=>hS.cut (by omega)
  have hofn:=hS.offn hi;have hdotb:=fun q=>hS.dotb i q
  rw[hWg]at hoff hdotb;have hdot0:0≤dotI (W.map (ah t.labels t.dims)) (ab (sliD t j) i):=by
   have:=(B7 (a:=W.map (ah t.labels t.dims)) (b:=ab (sliD t j) i) (by simp [hdl]) (fun q _=>hdotb q) W.length (by simp)).1
   rwa [ht1,ht2]at this
  have hcl:=cK hcut;have hcd:wd≤((t.data.drop (offJ u t.dims j i*wd)).take wd).length:=by omega
  have htt:List.take wd (List.take wd (List.drop (offJ u t.dims j i*wd) t.data))=List.take wd (List.drop (offJ u t.dims j i*wd) t.data):=zt (by omega);refine zU ?_;(refine zD (tn (a:=W.map (ah t.labels t.dims)) (b:=ab (sliD t j) i) (by simp [hdl]) (by simp;omega) (fun q _=>hdotb q)) ?_ (by simp only[go_sem,seval,reduceCtorEq,ht1,ht2,hdl]));simp(disch:=omega) only[go_sem,seval,reduceCtorEq,hoff];(refine zD (iV (t:=t) (x:=offJ u t.dims j i) e1 (by omega) hcut (by omega) (by omega)) ?_);simp(disch:=omega) only[go_sem,seval,reduceCtorEq,hcl,hgl,htt];refine⟨by omega, ?_⟩
  (refine eu [9] false (oC (ds:=sliD t j) (n:=i) (fun d hd=>by have:=hS.dbd d hd;omega) (by omega) (by omega)) (zd rfl) ?_ ?_ ?_ ?_ (zd rfl) ?_;(focus (simp only[go_sem,seval,reduceCtorEq,hDl,htD,hdl,hdl2];done));(focus (simp only[go_sem,seval,reduceCtorEq];done));(focus (simp only[go_sem,seval,reduceCtorEq,hDl,htD,hdl,hdl2];done));(focus (simp only[go_sem,seval,reduceCtorEq];done)));by_cases hlast:i+1<sliN t j
  ·have hde:decide (((i:Int)+1) % aa (sliD t j)≠0)=true:=by
    rw[hNN,Int.emod_eq_of_lt (by omega) (by omega)];exact decide_eq_true (by omega)
   simp(disch:=omega) only[go_sem,seval,reduceCtorEq,hde];(refine NextS.drop (mkB 100 1267645764524950942980004381184) (i+1) (by omega) (by omega) (h1:= ?_) (h2:= ?_)<;>first|(simp only[go_sem,seval,reduceCtorEq,nz,na,n1,gath,Nat.add_mul,Nat.one_mul];first|done|rfl)|rfl|skip)
  ·have hde:decide (((i:Int)+1) % aa (sliD t j)≠0)=false:=by
    have:(i:Int)+1=sliN t j:=by omega
    rw[hNN,this,Int.emod_self]
    rfl
   have hNs:sliN t j=i+1:=by omega
   have hst1:(i+1)*wd=i*wd+wd:=by rw[Nat.add_mul,Nat.one_mul]
   have hgl2:(gath t.data wd (offJ u t.dims j) (i+1)).length=i*wd+wd:=by rw[dP fun q hq=>hS.cut (by omega),hst1]
   simp(disch:=omega) only[go_sem,seval,reduceCtorEq,hde,e3,ho];refine FnEnd.wk Wk.nogA ?_;(refine zE ?_ ?_<;>try simp only[go_sem,seval,reduceCtorEq]);rw[gath]at hgl2
   all_goals simp only[sliR,hNs,hWg,hDl,hgl2,gath]
set_option maxRecDepth 100000
set_option maxRecDepth 100000
def fuL(t:Ten)(L:List Int)(x:Int):List Int:=wol t.labels L++[x]
def fuD(t:Ten)(L:List Int):List Int:=aM t (wol t.labels L)++[aa (aM t L)]
structure FuOk(r:Rg)(t:Ten)(L:List Int)(x:Int)(wd n:Nat):Prop where
 w:af r=wd
 p:PermOk t (wol t.labels L++L) wd n
 ok:∀x,al r (fuL t L x) (fuD t L) (cq wd t (wol t.labels L++L)).data=decide (aT (fuL t L x) (fuD t L)≠ -1)
 pl:aa (aM t L)≤4096∧1≤aa (aM t L)
 dl:∀d∈aM t L,1≤d∧d≤8
 len:(wol t.labels L).length≤12∧L.length≤12
 dle:((cq wd t (wol t.labels L++L)).data.length)≤24576
def add1(r:Rg)(a b:Int):Int:=
 if r.k=1∨r.k=5 then max a b else if r.k=3 then min (a+b) r.p else if r.k=4 then min a b else if r.k=6 then orI a b else (a+b).tmod r.p
def addE(r:Rg)(x y:List Int):List Int:=List.zipWith (add1 r) x y
theorem Hx(a b:Int):orI a b=orI b a:=by unfold orI;rw[BitVec.or_comm]
theorem Gj(r:Rg)(a b:Int):add1 r a b=add1 r b a:=by
 unfold add1;rw[Int.max_comm,Int.add_comm,Int.min_comm a b,Hx]
theorem Ai(r:Rg)(x y:List Int):addE r x y=addE r y x:=by
 unfold addE;rw[List.zipWith_comm]
 congr 1
 funext a b
 exact Gj r b a
theorem gM{r:Rg}{x y:List Int}{n:Nat}(h:x.length=n)(h':y.length=n):(addE r x y).length=n:=by simp [addE,h,h']
theorem y9{r:Rg}{x y:List Int}{k:Nat}(h:k<x.length)(h':k<y.length):(addE r x y)[k]? =some (add1 r x[k] y[k]):=by rw[addE,List.getElem?_zipWith,zg h,zg h']
def cutE(x:List Int)(wd k:Nat):List Int:=(x.drop (k*wd)).take wd
def opP(f:List Int→List Int→List Int)(x y:List Int)(wd:Nat):Nat→List Int
 |0=>[]
 |k+1=>opP f x y wd k++f (cutE x wd k) (cutE y wd k)
def opTo(f:List Int→List Int→List Int)(x y z:List Int)(wd k:Nat):List Int:=opP f x y wd k++z.drop (k*wd)
section
variable {f : List Int → List Int → List Int} {x y z : List Int} {wd n k : Nat}
theorem jr(h:x.length=n*wd)(hk:k<n):(cutE x wd k).length=wd:=by
 have:=fq (wd:=wd) hk;unfold cutE;rw[List.length_take,List.length_drop];omega
theorem mW(hf:∀k,k<n→(f (cutE x wd k) (cutE y wd k)).length=wd):∀k,k≤n→(opP f x y wd k).length=k*wd
 |0,_=>by simp [opP]
 |k+1,h=>by
  rw[opP,List.length_append,mW hf k (by omega),hf k (by omega),Nat.add_mul,Nat.one_mul]
theorem z6:opTo f x y z wd 0=z:=by simp [opTo,opP]
theorem HC(h:z.length=n*wd):opTo f x y z wd n=opP f x y wd n:=by simp [opTo,h]
theorem Hz(hf:∀k,k<n→(f (cutE x wd k) (cutE y wd k)).length=wd)(h:z.length=n*wd)(hk:k≤n):(opTo f x y z wd k).length=n*wd:=by
 have:=Nat.mul_le_mul_right wd hk;rw[opTo,List.length_append,mW hf k hk,List.length_drop];omega
theorem HA(hf:∀k,k<n→(f (cutE x wd k) (cutE y wd k)).length=wd)(hk:k≤n):cutE (opTo f x y z wd k) wd k=cutE z wd k:=by
 have hl:=mW hf k hk;unfold cutE opTo;rw[List.drop_append_of_le_length (by omega),List.drop_of_length_le (by omega),List.nil_append]
theorem Hy(hf:∀k,k<n→(f (cutE x wd k) (cutE y wd k)).length=wd)(hk:k<n):putE (opTo f x y z wd k) (k*wd) (f (cutE x wd k) (cutE y wd k))=opTo f x y z wd (k+1):=by
 have hl:=mW hf k (by omega);unfold putE opTo;rw[List.take_append_of_le_length (by omega),zt (by omega),hf k hk,List.drop_append,List.drop_of_length_le (by omega),List.nil_append,opP,List.drop_drop,Nat.add_mul,Nat.one_mul]
 congr 2
 omega
theorem C0(hf:∀a b,f a b=f b a):∀k,opP f x y wd k=opP f y x wd k
 |0=>rfl
 |k+1=>by rw[opP,opP,C0 hf k,hf]
end
theorem wE{ls L:List Int}(hn:ls.Nodup)(h:lO ls L=true):lO L ls=true:=by
 obtain⟨h1,h2⟩:=zd h;have hL:L.Nodup:=fp fun k hk=>(h2 k hk).2
 have hs:∀x∈L,x∈ls:=fun x hx=>by
  obtain⟨k,hk,rfl⟩:=List.mem_iff_getElem.1 hx
  exact(h2 k hk).1
 exact decide_eq_true ⟨h1.symm,fun k hk=>⟨wA hL hs (by omega) _ (List.getElem_mem hk),dQ hn hk⟩⟩
def alS(r:Rg)(a b:Ten):Bool:=al r a.labels a.dims a.data&&al r b.labels b.dims b.data&&lO a.labels b.labels
def alB(r:Rg)(a b:Ten):Bool:=alS r a b&&decide (aM b a.labels=a.dims)
def alT(r:Rg)(a b:Ten):Ten:=cq (af r).toNat b a.labels
structure AlOk(r:Rg)(a b:Ten)(wd n:Nat):Prop where
 ring:ai r=true
 w:af r=wd
 wb:1≤wd∧wd≤6
 pa:aa a.dims=n
 n1:1≤n∧n≤4096
 ax:axOk a.labels a.dims
 la:a.data.length=n*wd
 lb:(alT r a b).data.length=n*wd
 fa:fits r a.data
 fb:fits r (alT r a b).data
 dims:aM b a.labels=a.dims
theorem ER{r:Rg}{a b:Ten}(h:alB r a b=true):∃wd n:Nat,AlOk r a b wd n:=by
 simp only[alB,alS,Bool.and_eq_true,decide_eq_true_eq]at h;obtain⟨⟨⟨ha,hb⟩,hs⟩,hd⟩:=h;obtain⟨wd,n,e1,e2,e3,e4,e5,e6,e7,e8,e9,e10⟩:=ct ha;obtain⟨wd',n',f1,f2,hp⟩:=Dn hb (wE (bE e10) hs);have hww:wd'=wd:=by omega
 subst hww;have hal:alT r a b=cq wd' b a.labels:=by unfold alT;rw[f1];rfl
 have h8:fits r b.data:=(ct hb).choose_spec.choose_spec.2.2.2.2.2.2.2.1;refine⟨wd',n,e9,e1,⟨e3,e4⟩,e2,⟨e5,e6⟩,e10,e7, ?_,e8, ?_,hd⟩
 ·have h1:=Dj hp
  rw[hd,e2]at h1;rw[hal];have:((cq wd' b a.labels).data.length:Int)=(n*wd':Nat):=by rw[h1];push_cast;rfl
  omega
 ·rw[hal]
  exact Di (n:=n) h8
theorem eY{r:Rg}{x:List Int}(h:fits r x)(wd k:Nat):fits r (cutE x wd k):=fB h (k*wd) wd
namespace AlOk
variable {r : Rg} {a b : Ten} {wd n : Nat}
end AlOk
def qE(f:List Int→List Int→List Int)(r:Rg)(a b:Ten):Ten:=bif alB r a b then ⟨a.labels,a.dims,opP f a.data (alT r a b).data (af r).toNat (aa a.dims).toNat⟩ else ⟨[],[],[]⟩
theorem FP{f:List Int→List Int→List Int}{r:Rg}{a b:Ten}{wd n:Nat}(h:alB r a b=true)(h':AlOk r a b wd n):qE f r a b=⟨a.labels,a.dims,opP f a.data (alT r a b).data wd n⟩:=by
 rw[qE,h,h'.w,h'.pa];rfl
end Go.Proofs.YtobhmajhachnaaaGreatDoor
namespace Go.Proofs.YtobhmajhachnaaaGreatDoor
open Plain
theorem C7{a:Int}{m:Nat}(h:0≤a∧a<(2:Int) ^ m)(hm:m≤20):∃n:Nat,a=n∧n<2 ^ m∧n<1048577:=by
 obtain⟨n,rfl⟩:∃n:Nat,a=n:=⟨a.toNat,by omega⟩;have c:((2 ^ m:Nat):Int)=(2:Int) ^ m:=by simp
 have b:2 ^ m≤2 ^ 20:=Nat.pow_le_pow_right (by omega) hm;exact⟨n,rfl,by omega,by omega⟩
theorem Bm{n:Nat}(h:n<1048577):IntKind.i64.wrap (n:Int)=n:=by rw[IntKind.wrap_i64];omega
theorem eG{a b:Nat}(ha:a<1048577)(hb:b<1048577):andI a b=((a&&& b:Nat):Int):=by
 have e:(BitVec.ofInt 64 (a:Int)&&& BitVec.ofInt 64 (b:Int)).toNat=a&&& b:=by
  rw[BitVec.toNat_and,BitVec.ofInt_natCast,BitVec.ofInt_natCast,BitVec.toNat_ofNat,BitVec.toNat_ofNat,Nat.mod_eq_of_lt (by omega),Nat.mod_eq_of_lt (by omega)]
 have h:a&&& b≤a:=Nat.and_le_left;rw[andI,e,Bm (by omega)]
theorem kA{a b:Nat}(ha:a<2 ^ 20)(hb:b<2 ^ 20):orI a b=((a||| b:Nat):Int):=by
 have e:(BitVec.ofInt 64 (a:Int)||| BitVec.ofInt 64 (b:Int)).toNat=a||| b:=by
  rw[BitVec.toNat_or,BitVec.ofInt_natCast,BitVec.ofInt_natCast,BitVec.toNat_ofNat,BitVec.toNat_ofNat,Nat.mod_eq_of_lt (by omega),Nat.mod_eq_of_lt (by omega)]
 have h:a||| b<2 ^ 20:=Nat.or_lt_two_pow ha hb;rw[orI,e,Bm (by omega)]
theorem top6{r:Rg}(h:r.k=6):top r=2 ^ r.n.toNat-1:=by unfold top;rw[if_neg (by omega),if_neg (by omega),if_pos h]
theorem L4{r:Rg}{a b:Int}(hr:ai r=true)(hk:r.k=6)(ha:0≤a∧a≤top r)(hb:0≤b∧b≤top r):0≤andI a b∧andI a b≤top r:=by
 have hn:1≤r.n∧r.n≤20:=by rcases aO hr with h|h|h|h|h|h|h|h<;>omega
 rw[top6 hk]at*;obtain⟨m,rfl,h1,h2⟩:=C7 (a:=a) (m:=r.n.toNat) (by omega) (by omega);obtain⟨n,rfl,h3,h4⟩:=C7 (a:=b) (m:=r.n.toNat) (by omega) (by omega);have h:m&&& n≤m:=Nat.and_le_left;rw[eG h2 h4];omega
theorem Mc{r:Rg}{a b:Int}(hr:ai r=true)(hk:r.k=6)(ha:0≤a∧a≤top r)(hb:0≤b∧b≤top r):0≤orI a b∧orI a b≤top r:=by
 have hn:1≤r.n∧r.n≤20:=by rcases aO hr with h|h|h|h|h|h|h|h<;>omega
 rw[top6 hk]at*;obtain⟨m,rfl,h1,h2⟩:=C7 (a:=a) (m:=r.n.toNat) (by omega) (by omega);obtain⟨n,rfl,h3,h4⟩:=C7 (a:=b) (m:=r.n.toNat) (by omega) (by omega);have b:2 ^ r.n.toNat≤2 ^ 20:=Nat.pow_le_pow_right (by omega) (by omega);have h:m||| n<2 ^ r.n.toNat:=Nat.or_lt_two_pow h1 h3;have c:((2 ^ r.n.toNat:Nat):Int)=(2:Int) ^ r.n.toNat:=by simp
 rw[kA (by omega) (by omega)];omega
theorem topP{r:Rg}(h:r.k=2∨r.k=7∨r.k=8):top r=r.p-1:=by unfold top;rw[if_neg (by omega),if_neg (by omega),if_neg (by omega)]
theorem topQ{r:Rg}(h:r.k=3∨r.k=4∨r.k=5):top r=r.p:=by unfold top;rw[if_neg (by omega),if_pos h]
theorem oS{r:Rg}{x:Int}(h:0≤x∧x≤top r):fits r [x]:=eK fun y hy=>by simp only[List.mem_singleton]at hy;subst hy;exact h
theorem ue{r:Rg}{x y:List Int}{wd:Nat}(hr:ai r=true)(hw:af r=wd)(hx:fits r x)(hy:fits r y)(lx:x.length=wd)(ly:y.length=wd):fits r (mulE r x y):=by
 have hwb:=cm hr;have htb:=dA hr;have x0:=hx 0 (by omega);have y0:=hy 0 (by omega);unfold mulE;by_cases h7:r.k=7∨r.k=8
 ·rw[if_neg (by omega),if_neg (by omega),if_neg (by omega),if_neg (by omega),if_neg (by omega)]
  obtain⟨hlx,hp⟩:=bG hr hx (by omega);obtain⟨hly,_⟩:=bG hr hy (by omega);obtain⟨_,h1,h2⟩:=m4 hp (oE (by omega) x.length) hlx hly x.length;refine eK fun z hz=> ?_
  have:=h1.mem z hz;have:=topP (r:=r) (by omega);omega
 ·have hmm:0≤x.getD 0 0*y.getD 0 0:=Int.mul_nonneg x0.1 y0.1
  split
  ·exact oS (by omega)
  ·split
   ·obtain⟨_,hp⟩:=bG hr hx (by omega)
    have:=tmb hmm (show 0<r.p by omega);have:=topP (r:=r) (by omega);exact oS (by omega)
   ·have hp:r.k=3∨r.k=4→1≤r.p∧r.p≤1000000:=fun h=>by rcases aO hr with h|h|h|h|h|h|h|h<;>omega
    split
    ·have:=hp (.inl (by assumption))
     have:=topQ (r:=r) (by omega);exact oS (by omega)
    ·split
     ·have:=hp (.inr (by assumption))
      have:=topQ (r:=r) (by omega);exact oS (by omega)
     ·have h6:r.k=6:=by rcases aO hr with h|h|h|h|h|h|h|h<;>omega
      rw[if_pos h6];exact oS (L4 hr h6 x0 y0)
theorem Jc{r:Rg}{a b:Int}(hr:ai r=true)(ha:0≤a∧a≤top r)(hb:0≤b∧b≤top r):0≤add1 r a b∧add1 r a b≤top r:=by
 unfold add1;split
 ·omega
 ·split
  ·have:=topQ (r:=r) (by omega)
   omega
  ·split
   ·omega
   ·split
    ·exact Mc hr (by assumption) ha hb
    ·have hk:r.k=2∨r.k=7∨r.k=8:=by rcases aO hr with h|h|h|h|h|h|h|h<;>omega
     have hp:=(bG (r:=r) (x:=[]) hr (fun k hk=>by simp at hk) hk).2;have:=tmb (a:=a+b) (p:=r.p) (by omega) (by omega);have:=topP hk;omega
theorem uX{r:Rg}{x y:List Int}(hr:ai r=true)(hx:fits r x)(hy:fits r y):fits r (addE r x y):=eK fun z hz=>by
 obtain⟨k,hk,rfl⟩:=List.mem_iff_getElem.1 hz;have hk':k<x.length∧k<y.length:=by simp [addE]at hk;omega
 have h:=y9 (r:=r) hk'.1 hk'.2;rw[zg hk]at h;rw[Option.some.inj h];have h1:=hx k hk'.1;have h2:=hy k hk'.2;rw[ac hk'.1]at h1;rw[ac hk'.2]at h2;exact Jc hr h1 h2
def aq(kk pp:Int)(wd:Nat):List Int:=if kk=4 then (List.replicate wd 0).set 0 pp else List.replicate wd 0
theorem bz(kk pp:Int)(wd:Nat):(aq kk pp wd).length=wd:=by unfold aq;split<;>simp
theorem j8{r:Rg}{wd:Nat}(hr:ai r=true):fits r (aq r.k r.p wd):=eK fun x hx=>by
 have ht:=dA hr;unfold aq at hx;split at hx
 ·rename_i h4
  have:=topQ (r:=r) (by omega);rcases List.mem_or_eq_of_mem_set hx with h|h
  ·have:=List.eq_of_mem_replicate h;omega
  ·omega
 ·have:=List.eq_of_mem_replicate hx;omega
def repE(z:List Int):Nat→List Int
 |0=>[]
 |k+1=>repE z k++z
theorem dH(z:List Int):∀k,(repE z k).length=k*z.length
 |0=>by simp [repE]
 |k+1=>by rw[repE,List.length_append,dH z k,Nat.succ_mul]
theorem wG{z:List Int}:∀k,∀x∈repE z k,x∈z
 |0,x,h=>by simp [repE]at h
 |k+1,x,h=>by
  rw[repE,List.mem_append]at h;exact h.elim (wG k x) id
theorem Hg{xs ys:List Int}{off:Nat}:∀x∈putE xs off ys,x∈xs∨x∈ys:=fun x hx=>by
 simp only[putE,List.mem_append]at hx;rcases hx with (h|h)|h
 ·exact .inl (List.mem_of_mem_take h)
 ·exact .inr h
 ·exact .inl (List.mem_of_mem_drop h)
theorem u7{r:Rg}{xs ys:List Int}{off:Nat}(h:fits r xs)(h':fits r ys):fits r (putE xs off ys):=eK fun x hx=>(Hg x hx).elim (fA h x) (fA h' x)
structure InOk(ls ds L D:List Int)(n:Nat):Prop where
 ax:axOk ls ds
 pn:aa ds=n
 n1:1≤n∧n≤4096
 nodup:L.Nodup
 sup:∀x∈ls,x∈L
 dl:D.length=L.length
 dbd:∀d∈D,1≤d∧d≤8
 same:∀q (h:q<L.length),L[q]∈ls→D.getD q 0=ao ⟨ls,ds,[]⟩ L[q]
def bK(ls ds L D:List Int)(i:Nat):Nat:=(dotI (L.map (ah ls ds)) (ab D i)).toNat
namespace InOk
variable {ls ds L D : List Int} {n : Nat}
theorem idx(h:InOk ls ds L D n)(i:Nat):vj ds (ls.map (atL L (ab D i))):=by
 have ha:axOk (⟨ls,ds,[]⟩:Ten).labels (⟨ls,ds,[]⟩:Ten).dims:=h.ax;refine⟨by simp [h.ax.len],fun k hk=> ?_⟩;have hk':k<ls.length:=by have:=h.ax.len;omega
 have hm:=h.sup ls[k] (List.getElem_mem hk');obtain⟨q,h1,h2,h3,h4⟩:=EP (xs:=ab D i) hm (by simp [aJ,h.dl]);have h5:=g8 D i (fun d hd=>(h.dbd d hd).1) q (by rw[h.dl];exact h1);have h7:L[q]=ls[k]:=by rw[zg h1]at h3;simpa using h3
 have h6:D.getD q 0=ds.getD k 0:=by
  rw[h.same q h1 (by rw[h7];exact List.getElem_mem hk'),ac hk,h7];exact gJ (t:=⟨ls,ds,[]⟩) ha hk' hk
 unfold xC;have h8:(ls.map (atL L (ab D i))).getD k 0=atL L (ab D i) ls[k]:=by rw[ac (by simpa using hk')];simp
 rw[h8,h4, ← h6];exact h5
theorem off(h:InOk ls ds L D n)(i:Nat):dotI (L.map (ah ls ds)) (ab D i)=bK ls ds L D i∧bK ls ds L D i<n:=by
 have h1:=ri h.ax.len (bE h.ax) h.nodup h.sup (xs:=ab D i) (by simp [aJ,h.dl]);have h2:=Eo _ _ _ h.ax (h.idx i);have h3:=h.pn;unfold bK;rw[h1];omega
theorem cut(h:InOk ls ds L D n){data:List Int}{wd:Nat}(hl:data.length=n*wd)(i:Nat):bK ls ds L D i*wd+wd≤data.length:=by
 rw[hl];exact fq (h.off i).2
theorem dotb(h:InOk ls ds L D n)(i k:Nat):0≤(L.map (ah ls ds)).getD k 0*(ab D i).getD k 0∧(L.map (ah ls ds)).getD k 0*(ab D i).getD k 0≤16777216:=by
 by_cases hk:k<L.length
 ·have hkD:k<D.length:=by rw[h.dl];exact hk
  have h1:=g8 D i (fun d hd=>(h.dbd d hd).1) k hkD;have h2:=h.dbd (D.getD k 0) (by rw[ac hkD];exact List.getElem_mem _);have h3:=mP ls ds L[k] (fun d hd=>(h.ax.dim d hd).1);have h4:=h.pn;have h5:=h.n1;rw[ac (show k<(L.map (ah ls ds)).length by simpa using hk),List.getElem_map];generalize (ab D i).getD k 0=x at*;generalize ah ls ds L[k]=s at*;refine⟨Int.mul_nonneg h3.1 h1.1, ?_⟩;have:s*x≤s*8:=Int.mul_le_mul_of_nonneg_left (by omega) h3.1;omega
 ·have:(L.map (ah ls ds)).getD k 0=0:=by simp [zq,List.getElem?_eq_none (Nat.le_of_not_lt hk)]
  rw[this];simp
end InOk
theorem xz{a b:List Int}(ha:a.Nodup)(hb:b.Nodup):(aF a b).Nodup:=by
 unfold aF;refine List.nodup_append.2 ⟨ha,hb.filter _,fun x hx y hy e=> ?_⟩;subst e;simp only[List.mem_filter,Bool.not_eq_true',aI]at hy;exact hy.2 hx
def dAt(L D:List Int)(x:Int):Int:=D.getD (place L x).toNat 0
theorem DT{L D:List Int}{k:Nat}(hn:L.Nodup)(h:k<L.length):dAt L D L[k]=D.getD k 0:=by
 rw[dAt,ez h (dQ hn h)];rfl
def conL(a b:Ten):List Int:=aF a.labels b.labels
def conK(a b:Ten)(keep:List Int):List Int:=(conL a b).filter (has keep)
def conD(a b:Ten)(keep:List Int):List Int:=(conK a b keep).map (dAt (conL a b) (aB a b))
def conO(a b:Ten)(keep:List Int)(i:Nat):Nat:=bK (conK a b keep) (conD a b keep) (conL a b) (aB a b) i
def conE(r:Rg)(wd:Nat)(a b:Ten)(i:Nat):List Int:=mulE r (cutE a.data wd (bK a.labels a.dims (conL a b) (aB a b) i)) (cutE b.data wd (bK b.labels b.dims (conL a b) (aB a b) i))
def fE(r:Rg)(wd:Nat)(a b:Ten)(keep z:List Int):Nat→List Int
 |0=>z
 |i+1=>putE (fE r wd a b keep z i) (conO a b keep i*wd) (addE r (((fE r wd a b keep z i).drop (conO a b keep i*wd)).take wd) (conE r wd a b i))
def conB(r:Rg)(a b:Ten)(keep:List Int):Bool:=
 al r a.labels a.dims a.data&&al r b.labels b.dims b.data&&gZ a b&&decide (aa (aB a b)≤65536)&&decide (aT (conK a b keep) (conD a b keep)≠ -1)
def conR(r:Rg)(wd:Nat)(a b:Ten)(keep:List Int):Ten:=
 ⟨conK a b keep,conD a b keep,fE r wd a b keep (repE (aq r.k r.p wd) (aZ (conD a b keep))) (aZ (aB a b))⟩
def conT(r:Rg)(a b:Ten)(keep:List Int):Ten:=bif conB r a b keep then conR r (af r).toNat a b keep else ⟨[],[],[]⟩
theorem IW{a b:Ten}{keep xs:List Int}(a10:axOk a.labels a.dims)(b10:axOk b.labels b.dims)(ha:TSz 1048576 a)(hb:TSz 1048576 b)(hx:Sz 1048576 xs):TSz 1048576 (⟨conK a b keep,conD a b keep,xs⟩:Ten):=by
 have hll:=qd a.labels b.labels;have l1:=a10.1;have l2:=b10.1;have hfl:(conK a b keep).length≤24:=by
  have:=dS (aF a.labels b.labels) (aF a.labels b.labels).length (has keep);rw[List.take_length]at this
  show ((aF a.labels b.labels).filter (has keep)).length≤24
  omega
 refine⟨⟨by show (conK a b keep).length≤_;omega,fun x hx=>(bm.1 ((List.mem_filter.1 hx).1)).elim (ha.l.wf x) (hb.l.wf x)⟩,⟨by show (conD a b keep).length≤_;rw[conD,List.length_map];omega,fun x hx=> ?_⟩,hx⟩;obtain⟨y,hy,rfl⟩:=List.mem_map.1 hx;rcases Nat.lt_or_ge (place (conL a b) y).toNat (aB a b).length with h|h
 ·have:=sW a10 b10 (dAt (conL a b) (aB a b) y) (by rw[dAt,ac h];exact List.getElem_mem h)
  exact⟨by omega,by omega⟩
 ·have:dAt (conL a b) (aB a b) y=0:=by simp [dAt,zq,List.getElem?_eq_none h]
  rw[this];exact⟨by omega,by omega⟩
theorem LQ:Sz 1048576 []:=⟨by simp,by simp⟩
theorem Ga{ds:List Int}:ab ds 0=List.replicate ds.length 0:=by
 refine List.ext_getElem (by simp [aJ]) fun q h1 h2=> ?_
 have h3:q<ds.length:=by simpa [aJ]using h1
 have h5:=eP ds 0 q h3;rw[ac h1]at h5;rw[h5];simp [p5]
structure ConOk(r:Rg)(a b:Ten)(keep:List Int)(wd na nb n N:Nat):Prop where
 ring:ai r=true
 w:af r=wd
 wb:1≤wd∧wd≤6
 ja:gZ a b=true
 la:a.data.length=na*wd
 lb:b.data.length=nb*wd
 fa:fits r a.data
 fb:fits r b.data
 ia:InOk a.labels a.dims (conL a b) (aB a b) na
 ib:InOk b.labels b.dims (conL a b) (aB a b) nb
 io:InOk (conK a b keep) (conD a b keep) (conL a b) (aB a b) n
 pN:aa (aB a b)=N
 N1:1≤N∧N≤65536
theorem Co{a b:Ten}{q:Nat}(hq:q<(conL a b).length):(aB a b).getD q 0=if has a.labels (conL a b)[q]=true then ao a (conL a b)[q] else ao b (conL a b)[q]:=by
 have h:q<(aB a b).length:=by simpa [aB,conL]using hq
 rw[ac h];simp only[aB,conL,List.getElem_map]
 rfl
theorem IV{r:Rg}{a b:Ten}{keep:List Int}(h:conB r a b keep=true):∃wd na nb n N:Nat,ConOk r a b keep wd na nb n N:=by
 simp only[conB,Bool.and_eq_true,decide_eq_true_eq]at h;obtain⟨⟨⟨⟨h1,h2⟩,h3⟩,h4⟩,h5⟩:=h;obtain⟨wd,na,a1,a2,a3,a4,a5,a6,a7,a8,a9,a10⟩:=ct h1;obtain⟨wd',nb,b1,b2,b3,b4,b5,b6,b7,b8,b9,b10⟩:=ct h2;have hwd:wd'=wd:=by omega
 subst hwd;have hnd:(conL a b).Nodup:=xz (bE a10) (bE b10);have hdl:(aB a b).length=(conL a b).length:=by simp [aB,conL]
 have hdb:=sW a10 b10;have hpj:=xA a10 b10 (by omega) (by omega);obtain⟨c1,c2,c3,c4⟩:=(dd (conK a b keep) (conD a b keep)).resolve_left h5;have hsub:∀x∈conK a b keep,x∈conL a b:=fun x hx=>(List.mem_filter.1 hx).1
 refine⟨wd',na,nb,(aa (conD a b keep)).toNat,(aa (aB a b)).toNat,a9,a1,⟨a3,a4⟩,h3,a7,b7,a8,b8, ?_, ?_, ?_,by omega,by omega⟩
 ·refine⟨a10,a2,⟨a5,a6⟩,hnd,fun x hx=>bm.2 (.inl hx),hdl,hdb,fun q hq hm=> ?_⟩
  rw[Co hq,if_pos (aQ.2 hm)];rfl
 ·refine⟨b10,b2,⟨b5,b6⟩,hnd,fun x hx=>bm.2 (.inr hx),hdl,hdb,fun q hq hm=> ?_⟩
  rw[Co hq];split
  ·rename_i hh
   exact xy h3 (aQ.1 hh) hm
  ·rfl
 ·refine⟨c1,by omega,by omega,hnd,hsub,hdl,hdb,fun q hq hm=> ?_⟩
  obtain⟨i,hi,e1,e2,_⟩:=eU hm;have e3:ao ⟨conK a b keep,conD a b keep,[]⟩ (conL a b)[q]=(conD a b keep).getD i 0:=by rw[ao,e1];rfl
  have hi':i<(conD a b keep).length:=by simpa [conD]using hi
  rw[e3,ac hi'];simp only[conD,List.getElem_map,e2]
  exact(DT hnd hq).symm
section
variable {r : Rg} {a b : Ten} {keep : List Int} {wd na nb n N : Nat}
theorem ConOk.pO(h:ConOk r a b keep wd na nb n N):aZ (conD a b keep)=n:=by have:=h.io.pn;unfold aZ;omega
theorem ConOk.pJ(h:ConOk r a b keep wd na nb n N):aZ (aB a b)=N:=by have:=h.pN;unfold aZ;omega
theorem ConOk.ca(h:ConOk r a b keep wd na nb n N)(i:Nat):(cutE a.data wd (bK a.labels a.dims (conL a b) (aB a b) i)).length=wd:=jr h.la (h.ia.off i).2
theorem ConOk.cb(h:ConOk r a b keep wd na nb n N)(i:Nat):(cutE b.data wd (bK b.labels b.dims (conL a b) (aB a b) i)).length=wd:=jr h.lb (h.ib.off i).2
theorem ConOk.el(h:ConOk r a b keep wd na nb n N)(i:Nat):(conE r wd a b i).length=wd:=(fV h.ring h.w (eY h.fa wd _) (eY h.fb wd _) (h.ca i) (h.cb i)).1
theorem ConOk.ef(h:ConOk r a b keep wd na nb n N)(i:Nat):fits r (conE r wd a b i):=ue h.ring h.w (eY h.fa wd _) (eY h.fb wd _) (h.ca i) (h.cb i)
theorem xS(h:ConOk r a b keep wd na nb n N){z:List Int}(hz:z.length=n*wd)(hf:fits r z):∀i,(fE r wd a b keep z i).length=n*wd∧fits r (fE r wd a b keep z i)
 |0=>⟨hz,hf⟩
 |i+1=>by
  obtain⟨h1,h2⟩:=xS h hz hf i;have h3:=h.io.cut h1 i;have h3:conO a b keep i*wd+wd≤(fE r wd a b keep z i).length:=h3;have h4:=fB h2 (conO a b keep i*wd) wd;have h5:=gM (r:=r) (cK h3) (h.el i);rw[fE];exact⟨by rw[bQ (by rw[h5];exact h3),h1],u7 h2 (uX h.ring h4 (h.ef i))⟩
theorem ConOk.zl(h:ConOk r a b keep wd na nb n N):(repE (aq r.k r.p wd) n).length=n*wd:=by rw[dH,bz]
theorem ConOk.zf(h:ConOk r a b keep wd na nb n N):fits r (repE (aq r.k r.p wd) n):=eK fun x hx=>fA (j8 h.ring) x (wG n x hx)
theorem KP(h:ConOk r a b keep wd na nb n N):conR r wd a b keep=⟨conK a b keep,conD a b keep,fE r wd a b keep (repE (aq r.k r.p wd) n) N⟩:=by rw[conR,h.pO,h.pJ]
theorem IT(hb:conB r a b keep=true)(h:ConOk r a b keep wd na nb n N):conT r a b keep=conR r wd a b keep:=by rw[conT,hb,h.w];rfl
theorem KO(hb:conB r a b keep=false):conT r a b keep=⟨[],[],[]⟩:=by rw[conT,hb];rfl
end
end Go.Proofs.YtobhmajhachnaaaGreatDoor
namespace Go.Proofs.YtobhmajhachnaaaGreatDoor
open Go.RowKit Go.Lift Plain
set_option maxRecDepth 100000
theorem Aq{xs ys:List Int}{k:Nat}(h:xs.take k=ys.take k)(hx:k<xs.length)(hy:k<ys.length)(e:xs[k]=ys[k]):xs.take (k+1)=ys.take (k+1):=by
 rw[ba hx,ba hy,h,e]
theorem oU{xs ys:List Int}(h:xs.length≤1048576)(h':ys.length≤1048576):Does Tryz.prog 53 [.d (ints xs),.d (ints ys)] [] (.d (.bool (decide (xs=ys)))) []:=by
 refine zS Tryz.func53 uw ?_;unfold mD;refine zT ?_;by_cases hl:xs.length=ys.length
 rotate_left
 ·have c:((xs.length:Int) !=ys.length)=true:=by simp;omega
  have e:decide (xs=ys)=false:=decide_eq_false fun e=>hl (by rw[e])
  simp only[go_sem,seval,reduceCtorEq,c,e];exact zX
 have c:((xs.length:Int) !=ys.length)=false:=by simp [hl]
 simp only[go_sem,seval,reduceCtorEq,c];have hI0:xs.take 0=ys.take 0:=by simp
 refine cI (xs.length) (mkB 26 67092528) (fun k=>xs.take k=ys.take k) (fun k=>[(13,.d (.int k))]) (fun k=>[]) (hi:=hI0) (hr:=fun k hk hi=> ?_);unfold l6;by_cases hlt:k<xs.length
 ·have d1:(k:Int)<xs.length:=by omega
  have d2:(k:Int)<ys.length:=by omega
  have hy:k<ys.length:=by omega
  have g:xs[k]? =some xs[k]:=zg hlt;have g':ys[k]? =some ys[k]:=zg hy;by_cases hb:xs[k]=ys[k]
  ·have c2:(xs[k] !=ys[k])=false:=by simp [hb]
   simp(disch:=omega) only[go_sem,seval,reduceCtorEq,d1,d2,g,g',c2]
   (repeat (refine And.intro (by omega) ?_))
   exact NextI.drop (mkB 26 67092528) (by omega) (Aq hi hlt hy hb)
  ·have c2:(xs[k] !=ys[k])=true:=by simp [hb]
   have e:decide (xs=ys)=false:=decide_eq_false fun e=>hb (by subst e;rfl)
   simp(disch:=omega) only[go_sem,seval,reduceCtorEq,d1,d2,g,g',c2,e]
   (repeat (refine And.intro (by omega) ?_))
   exact zX
 ·have d1:¬(k:Int)<xs.length:=by omega
  have e:decide (xs=ys)=true:=decide_eq_true (by rwa [zt (by omega),zt (by omega)]at hi);simp(disch:=omega) only[go_sem,seval,reduceCtorEq,d1,e];exact zX
theorem E1{r:Rg}(a b:Int):(r.k=1∨r.k=5→add1 r a b=max a b)∧(r.k=3→add1 r a b=min (a+b) r.p)∧(r.k=4→add1 r a b=min a b)∧(r.k=6→add1 r a b=orI a b)∧(r.k=2∨r.k=7∨r.k=8→add1 r a b=(a+b).tmod r.p):=by
 unfold add1;refine⟨fun h=> ?_,fun h=> ?_,fun h=> ?_,fun h=> ?_,fun h=> ?_⟩
 ·rw[if_pos h]
 ·rw[if_neg (by omega),if_pos h]
 ·rw[if_neg (by omega),if_neg (by omega),if_pos h]
 ·rw[if_neg (by omega),if_neg (by omega),if_neg (by omega),if_pos h]
 ·rw[if_neg (by omega),if_neg (by omega),if_neg (by omega),if_neg (by omega)]
set_option maxHeartbeats 1600000 in
theorem I7{kk pp nn:Int}{x y:List Int}{wd:Nat}(hr:ai ⟨kk,pp,nn⟩=true)(hw:af ⟨kk,pp,nn⟩=wd)(hx:fits ⟨kk,pp,nn⟩ x)(hy:fits ⟨kk,pp,nn⟩ y)(lx:x.length=wd)(ly:y.length=wd):
  Does Tryz.prog 85 [aY kk pp nn,.d (ints x),.d (ints y)] [] (.own 0 0 wd) [some ⟨1,true,iv (addE ⟨kk,pp,nn⟩ x y)⟩]:=by
 have hwb:=cm hr;have htb:=dA hr;have hor:∀a b:Int,IntKind.i64.wrap (BitVec.ofInt 64 a||| BitVec.ofInt 64 b).toNat=orI a b:=fun _ _=>rfl
 have hal:=gM (r:=⟨kk,pp,nn⟩) lx ly;have hrl:(List.replicate wd (0:Int)).length=wd:=by simp
 have hml:(addE ⟨kk,pp,nn⟩ x y).length=(List.replicate wd (0:Int)).length:=by rw[hal,hrl]
 have hlow:=fun h=>(bG (r:=⟨kk,pp,nn⟩) hr hx h).2
 simp only at hlow;refine zS Tryz.func85 yj ?_;unfold qT;refine zT ?_;refine⟨by omega, ?_⟩;refine aA (wd) (mkB 96 39614081257132168796771942656) (fun k=>[(14,.d (.int k))]) (fun k=>[(1,iv (mix (addE ⟨kk,pp,nn⟩ x y) (List.replicate wd 0) k))]) (h1:=by first|(simp only[go_sem,seval,reduceCtorEq,nz,na,n1,cA,lx];first|done|rfl)|rfl) (h2:=by first|(simp only[go_sem,seval,reduceCtorEq,nz,na,n1,cA,lx];first|done|rfl)|rfl) (hr:=fun k hk=> ?_);unfold po;have hmk:(mix (addE ⟨kk,pp,nn⟩ x y) (List.replicate wd 0) k).length=wd:=by rw[kD hml,hal]
 by_cases hlt:k<wd
 ·have d1:(k:Int)<x.length:=by omega
  have d2:(k:Int)<y.length:=by omega
  have d3:(k:Int)<wd:=by omega
  have hkx:k<x.length:=by omega
  have hky:k<y.length:=by omega
  have gx:x[k]? =some x[k]:=zg hkx;have gy:y[k]? =some y[k]:=zg hky;have bx:=hx k hkx;have bY:=hy k hky;rw[ac hkx]at bx;rw[ac hky]at bY;have hm:=gE hml (y9 (r:=⟨kk,pp,nn⟩) hkx hky);obtain⟨a1,a2,a3,a4,a5⟩:=E1 (r:=⟨kk,pp,nn⟩) x[k] y[k];simp only at a1 a2 a3 a4 a5;generalize hae:x[k]=a at*;generalize hbe:y[k]=b at*;rcases aO hr with h|h|h|h|h|h|h|h<;>simp only at h<;>obtain⟨rfl,h⟩:=h
  ·have ho:orI a b=max a b:=by simp only[top,if_true]at bx bY;exact Md bx bY
   simp(disch:=omega) only[go_sem,seval,reduceCtorEq,lx,ly,d1,d2,d3,gx,gy,hor,ho, ← a1 (.inl rfl)];refine⟨by omega, ?_⟩;(refine Next.drop (mkB 96 39614081257132168796771942656) (by omega) (h1:= ?_) (h2:= ?_)<;>first|(simp only[go_sem,seval,reduceCtorEq,nz,na,n1,hm];first|done|rfl)|rfl|skip)
  ·have hp:=hlow (.inl rfl)
   have hp0:pp≠0:=by omega
   simp(disch:=omega) only[go_sem,seval,reduceCtorEq,lx,ly,d1,d2,d3,gx,gy,hp0,ne_eq,not_false_eq_true, ← a5 (.inl rfl)];refine⟨by omega, ?_⟩;(refine Next.drop (mkB 96 39614081257132168796771942656) (by omega) (h1:= ?_) (h2:= ?_)<;>first|(simp only[go_sem,seval,reduceCtorEq,nz,na,n1,hm];first|done|rfl)|rfl|skip)
  ·simp(disch:=omega) only[go_sem,seval,reduceCtorEq,lx,ly,d1,d2,d3,gx,gy, ← a2 rfl]
   refine⟨by omega, ?_⟩;(refine Next.drop (mkB 96 39614081257132168796771942656) (by omega) (h1:= ?_) (h2:= ?_)<;>first|(simp only[go_sem,seval,reduceCtorEq,nz,na,n1,hm];first|done|rfl)|rfl|skip)
  ·simp(disch:=omega) only[go_sem,seval,reduceCtorEq,lx,ly,d1,d2,d3,gx,gy, ← a3 rfl]
   refine⟨by omega, ?_⟩;(refine Next.drop (mkB 96 39614081257132168796771942656) (by omega) (h1:= ?_) (h2:= ?_)<;>first|(simp only[go_sem,seval,reduceCtorEq,nz,na,n1,hm];first|done|rfl)|rfl|skip)
  ·simp(disch:=omega) only[go_sem,seval,reduceCtorEq,lx,ly,d1,d2,d3,gx,gy, ← a1 (.inr rfl)]
   refine⟨by omega, ?_⟩;(refine Next.drop (mkB 96 39614081257132168796771942656) (by omega) (h1:= ?_) (h2:= ?_)<;>first|(simp only[go_sem,seval,reduceCtorEq,nz,na,n1,hm];first|done|rfl)|rfl|skip)
  ·simp(disch:=omega) only[go_sem,seval,reduceCtorEq,lx,ly,d1,d2,d3,gx,gy,hor, ← a4 rfl]
   refine⟨by omega, ?_⟩;(refine Next.drop (mkB 96 39614081257132168796771942656) (by omega) (h1:= ?_) (h2:= ?_)<;>first|(simp only[go_sem,seval,reduceCtorEq,nz,na,n1,hm];first|done|rfl)|rfl|skip)
  ·have hp:=hlow (.inr (.inl rfl))
   have hp0:pp≠0:=by omega
   simp(disch:=omega) only[go_sem,seval,reduceCtorEq,lx,ly,d1,d2,d3,gx,gy,hp0,ne_eq,not_false_eq_true, ← a5 (.inr (.inl rfl))];refine⟨by omega, ?_⟩;(refine Next.drop (mkB 96 39614081257132168796771942656) (by omega) (h1:= ?_) (h2:= ?_)<;>first|(simp only[go_sem,seval,reduceCtorEq,nz,na,n1,hm];first|done|rfl)|rfl|skip)
  ·have hp:=hlow (.inr (.inr rfl))
   have hp0:pp≠0:=by omega
   simp(disch:=omega) only[go_sem,seval,reduceCtorEq,lx,ly,d1,d2,d3,gx,gy,hp0,ne_eq,not_false_eq_true, ← a5 (.inr (.inr rfl))];refine⟨by omega, ?_⟩;(refine Next.drop (mkB 96 39614081257132168796771942656) (by omega) (h1:= ?_) (h2:= ?_)<;>first|(simp only[go_sem,seval,reduceCtorEq,nz,na,n1,hm];first|done|rfl)|rfl|skip)
 ·have d1:¬(k:Int)<wd:=by omega
  have hm:mix (addE ⟨kk,pp,nn⟩ x y) (List.replicate wd 0) k=addE ⟨kk,pp,nn⟩ x y:=ji (by omega) (by omega);simp(disch:=omega) only[go_sem,seval,reduceCtorEq,lx,d1,hm];exact zX
set_option maxHeartbeats 1600000 in
theorem Ag{kk pp nn:Int}{xs y:List Int}{off wd:Nat}(hr:ai ⟨kk,pp,nn⟩=true)(hw:af ⟨kk,pp,nn⟩=wd)(hx:fits ⟨kk,pp,nn⟩ ((xs.drop off).take wd))(hy:fits ⟨kk,pp,nn⟩ y)(ly:y.length=wd)(ho:off+wd≤xs.length)(hl:xs.length≤1099511627776):
  Does Tryz.prog 94 [aY kk pp nn,.own 0 off wd,.d (ints y)] [some ⟨1,false,iv xs⟩] (.tup []) [some ⟨1,false,iv (putE xs off (addE ⟨kk,pp,nn⟩ ((xs.drop off).take wd) y))⟩]:=by
 have hwb:=cm hr;have htb:=dA hr;have hor:∀a b:Int,IntKind.i64.wrap (BitVec.ofInt 64 a||| BitVec.ofInt 64 b).toNat=orI a b:=fun _ _=>rfl
 have lx:((xs.drop off).take wd).length=wd:=by rw[List.length_take,List.length_drop];omega
 have hput0:putE xs off ((xs.drop off).take wd)=xs:=by
  unfold putE;rw[lx,List.append_assoc, ← List.drop_drop,List.take_append_drop,List.take_append_drop]
 have hlow:=fun h=>(bG (r:=⟨kk,pp,nn⟩) hr hx h).2
 simp only at hlow;generalize hcx:(xs.drop off).take wd=x at*;have hal:=gM (r:=⟨kk,pp,nn⟩) lx ly;have hml:(addE ⟨kk,pp,nn⟩ x y).length=x.length:=by rw[hal,lx]
 have hgx:∀k,k<wd→xs[off+k]? =some (x.getD k 0):=fun k hk=>by
  have h1:=w4 (xs:=xs) (ys:=x) (off:=off) (k:=k) (by omega) (by omega)
  rwa [hput0]at h1
 refine zS Tryz.func94 xu ?_;unfold pV;refine zT ?_;by_cases hpoly:kk=2∨kk=7∨kk=8
 ·have hp:=hlow hpoly
  have hp0:pp≠0:=by omega
  have k1:(kk==1)=false:=by simp;omega
  have k3:(kk==3)=false:=by simp;omega
  have k4:(kk==4)=false:=by simp;omega
  have k5:(kk==5)=false:=by simp;omega
  have k6:(kk==6)=false:=by simp;omega
  simp(disch:=omega) only[go_sem,seval,reduceCtorEq,k1,k3,k4,k5,k6];have hpm0:putE xs off (mix (addE ⟨kk,pp,nn⟩ x y) x 0)=xs:=by rw[cA,hput0]
  refine aA (wd) (mkB 77 1073737792) (fun k=>[(11,.d (.int k))]) (fun k=>[(0,iv (putE xs off (mix (addE ⟨kk,pp,nn⟩ x y) x k)))]) (h1:=by first|(simp only[go_sem,seval,reduceCtorEq,nz,na,n1,hpm0];first|done|rfl)|rfl) (h2:=by first|(simp only[go_sem,seval,reduceCtorEq,nz,na,n1,hpm0];first|done|rfl)|rfl) (hr:=fun k hk=> ?_);unfold nM;have hmk:(mix (addE ⟨kk,pp,nn⟩ x y) x k).length=wd:=by rw[kD hml,hal]
  have hpl:=bQ (xs:=xs) (off:=off) (ys:=mix (addE ⟨kk,pp,nn⟩ x y) x k) (by omega);by_cases hlt:k<wd
  ·have d1:(k:Int)<wd:=by omega
   have d2:(k:Int)<y.length:=by omega
   have hkx:k<x.length:=by omega
   have hky:k<y.length:=by omega
   have gy:y[k]? =some y[k]:=zg hky;have bx:=hx k hkx;have bY:=hy k hky;rw[ac hkx]at bx;rw[ac hky]at bY;have hgm:(mix (addE ⟨kk,pp,nn⟩ x y) x k).getD k 0=x[k]:=by
    rw[zq,Et hml,if_neg (by omega),zg hkx];rfl
   have gm:=w4 (xs:=xs) (ys:=mix (addE ⟨kk,pp,nn⟩ x y) x k) (off:=off) (k:=k) (by omega) (by omega);rw[hgm]at gm;have hm:=gE hml (y9 (r:=⟨kk,pp,nn⟩) hkx hky);have hq:=wL (xs:=xs) (ys:=mix (addE ⟨kk,pp,nn⟩ x y) x k) (off:=off) (k:=k) (v:=add1 ⟨kk,pp,nn⟩ x[k] y[k]) (by omega) (by omega);rw[← cW (by omega),hm]at hq;have a5:=(E1 (r:=⟨kk,pp,nn⟩) x[k] y[k]).2.2.2.2 hpoly;simp only at a5;generalize hae:x[k]=a at*;generalize hbe:y[k]=b at*;simp(disch:=omega) only[go_sem,seval,reduceCtorEq,d1,d2,gm,gy,hp0,ne_eq,not_false_eq_true, ← a5];refine⟨by omega, ?_⟩
   (refine Next.drop (mkB 77 1073737792) (by omega) (h1:= ?_) (h2:= ?_)<;>first|(simp only[go_sem,seval,reduceCtorEq,nz,na,n1,hq];first|done|rfl)|rfl|skip)
  ·have d1:¬(k:Int)<wd:=by omega
   have hm:mix (addE ⟨kk,pp,nn⟩ x y) x k=addE ⟨kk,pp,nn⟩ x y:=ji (by omega) (by omega);simp(disch:=omega) only[go_sem,seval,reduceCtorEq,d1,hm];exact zX
 have hwd1:wd=1:=by have:=oV (r:=⟨kk,pp,nn⟩) hr (by simp only;omega);omega
 subst hwd1;have gx:=hgx 0 (by omega);have gy:y[0]? =some (y.getD 0 0):=by rw[ac (by omega)];exact zg (by omega)
 have bx:=hx 0 (by omega);have bY:=hy 0 (by omega);have c1:(0:Int)<(1:Nat):=by omega
 have c3:(0:Int)<y.length:=by omega
 have c4:off+1≤xs.length:=by omega
 have he:addE ⟨kk,pp,nn⟩ x y=[add1 ⟨kk,pp,nn⟩ (x.getD 0 0) (y.getD 0 0)]:=by
  match x,y,lx,ly with
  | [a],[b],_,_=>rfl
 have hput:∀v:Int,xs.take off++[v]++xs.drop (off+1)=putE xs off [v]:=fun v=>rfl
 obtain⟨a1,a2,a3,a4,a5⟩:=E1 (r:=⟨kk,pp,nn⟩) (x.getD 0 0) (y.getD 0 0);simp only at a1 a2 a3 a4 a5;rw[Nat.add_zero]at gx;generalize hae:x.getD 0 0=a at*;generalize hbe:y.getD 0 0=b at*;rcases aO hr with h|h|h|h|h|h|h|h<;>simp only at h<;>obtain⟨rfl,h⟩:=h
 ·simp(disch:=omega) only[go_sem,seval,reduceCtorEq,gx,gy,c1,c3,c4]
  (refine zE ?_ ?_<;>try simp only[go_sem,seval,reduceCtorEq]);rw[hput,he,a1 (.inl rfl)]
 ·exact absurd (.inl rfl) hpoly
 ·simp(disch:=omega) only[go_sem,seval,reduceCtorEq,gx,gy,c1,c3,c4]
  (refine zE ?_ ?_<;>try simp only[go_sem,seval,reduceCtorEq]);rw[hput,he,a2 rfl]
 ·simp(disch:=omega) only[go_sem,seval,reduceCtorEq,gx,gy,c1,c3,c4]
  (refine zE ?_ ?_<;>try simp only[go_sem,seval,reduceCtorEq]);rw[hput,he,a3 rfl]
 ·simp(disch:=omega) only[go_sem,seval,reduceCtorEq,gx,gy,c1,c3,c4]
  (refine zE ?_ ?_<;>try simp only[go_sem,seval,reduceCtorEq]);rw[hput,he,a1 (.inr rfl)]
 ·simp(disch:=omega) only[go_sem,seval,reduceCtorEq,gx,gy,c1,c3,c4]
  (refine zE ?_ ?_<;>try simp only[go_sem,seval,reduceCtorEq]);rw[hput,hor,he,a4 rfl]
 ·exact absurd (.inr (.inl rfl)) hpoly
 ·exact absurd (.inr (.inr rfl)) hpoly
def alR(r:Rg)(a b:Ten):Ten:=bif alB r a b then ⟨a.labels,a.dims,(alT r a b).data⟩ else ⟨[],[],[]⟩
theorem MR{r:Rg}{a b:Ten}{wd n:Nat}(h:AlOk r a b wd n):cq wd b a.labels=⟨a.labels,a.dims,(alT r a b).data⟩:=by
 unfold alT;rw[h.w,Int.toNat_natCast];unfold cq;rw[h.dims]
theorem L8{r:Rg}{a b:Ten}(h:alS r a b=true):∃wd n:Nat,af r=wd∧PermOk b a.labels wd n:=by
 simp only[alS,Bool.and_eq_true]at h;obtain⟨⟨ha,hb⟩,hs⟩:=h;obtain⟨wd,n,e1,e2,e3,e4,e5,e6,e7,e8,e9,e10⟩:=ct ha;obtain⟨wd',n',f1,f2,hp⟩:=Dn hb (wE (bE e10) hs);exact⟨wd',n',f1,hp⟩
theorem Ij{kk pp nn:Int}{t u:Ten}(a:I64 kk)(b:I64 pp)(c:I64 nn)(ht:TSz 1048576 t)(hu:TSz 1048576 u):
  Does Tryz.prog 93 [aY kk pp nn,tenA t,tenA u] [] (.tup [ownT 0 (alR ⟨kk,pp,nn⟩ t u),.d (.bool (alB ⟨kk,pp,nn⟩ t u))]) (stoF (alR ⟨kk,pp,nn⟩ t u)):=by
 refine zS Tryz.func93 ru ?_;unfold km;refine zT ?_;(refine zC (bM (t:=t) a b c ht.up) ?_);cases h1:al ⟨kk,pp,nn⟩ t.labels t.dims t.data
 ·have e1:alB ⟨kk,pp,nn⟩ t u=false:=by simp [alB,alS,h1]
  have e2:alR ⟨kk,pp,nn⟩ t u=⟨[],[],[]⟩:=by simp [alR,e1]
  simp only[go_sem,seval,reduceCtorEq,h1,e1,e2];refine FnEnd.wk (Wk.trans (Wk.nilS 3 0 1 _ _ _ rfl rfl) (Wk.trans (Wk.nilS 3 1 1 _ _ _ rfl rfl) (Wk.trans (Wk.nilS 3 2 1 _ _ _ rfl rfl) Wk.nogA))) ?_;exact zX
 simp only[go_sem,seval,reduceCtorEq,h1];(refine zC (bM (t:=u) a b c hu.up) ?_);cases h2:al ⟨kk,pp,nn⟩ u.labels u.dims u.data
 ·have e1:alB ⟨kk,pp,nn⟩ t u=false:=by simp [alB,alS,h2]
  have e2:alR ⟨kk,pp,nn⟩ t u=⟨[],[],[]⟩:=by simp [alR,e1]
  simp only[go_sem,seval,reduceCtorEq,h2,e1,e2];refine FnEnd.wk (Wk.trans (Wk.nilS 3 0 1 _ _ _ rfl rfl) (Wk.trans (Wk.nilS 3 1 1 _ _ _ rfl rfl) (Wk.trans (Wk.nilS 3 2 1 _ _ _ rfl rfl) Wk.nogA))) ?_;exact zX
 simp only[go_sem,seval,reduceCtorEq,h2];(refine zC (sf (ls:=t.labels) (L:=u.labels) ht.l.up.len hu.l.up.len) ?_);cases h3:lO t.labels u.labels
 ·have e1:alB ⟨kk,pp,nn⟩ t u=false:=by simp [alB,alS,h3]
  have e2:alR ⟨kk,pp,nn⟩ t u=⟨[],[],[]⟩:=by simp [alR,e1]
  simp only[go_sem,seval,reduceCtorEq,h3,e1,e2];refine FnEnd.wk (Wk.trans (Wk.nilS 3 0 1 _ _ _ rfl rfl) (Wk.trans (Wk.nilS 3 1 1 _ _ _ rfl rfl) (Wk.trans (Wk.nilS 3 2 1 _ _ _ rfl rfl) Wk.nogA))) ?_;exact zX
 simp only[go_sem,seval,reduceCtorEq,h3];have hS:alS ⟨kk,pp,nn⟩ t u=true:=by simp [alS,h1,h2,h3]
 obtain⟨wd,n,f1,hp⟩:=L8 hS;have hdl:=ht.l.len;have htd:=ht.d.len;(refine zC (sj f1 hp hu ht.l) ?_);simp only[go_sem,seval,reduceCtorEq,cq];have hpl:(aM u t.labels).length=t.labels.length:=by simp [aM]
 have hpt:List.take t.labels.length (aM u t.labels)=aM u t.labels:=zt (by omega);(refine zC (oU (xs:=t.dims) (ys:=aM u t.labels) (by omega) (by omega)) ?_ (by simp only[go_sem,seval,reduceCtorEq,hpl,hpt]));by_cases h4:aM u t.labels=t.dims
 ·have e1:alB ⟨kk,pp,nn⟩ t u=true:=by simp [alB,hS,h4]
  obtain⟨wd',n',ho⟩:=ER e1;have hww:wd'=wd:=by have:=ho.w;omega
  subst hww;have e2:alR ⟨kk,pp,nn⟩ t u=cq wd' u t.labels:=by rw[alR,e1,MR ho];rfl
  have c1:decide (t.dims=aM u t.labels)=true:=decide_eq_true h4.symm;simp only[go_sem,seval,reduceCtorEq,c1,e1,e2,cq];exact zX
 ·have e1:alB ⟨kk,pp,nn⟩ t u=false:=by simp [alB,h4]
  have e2:alR ⟨kk,pp,nn⟩ t u=⟨[],[],[]⟩:=by simp [alR,e1]
  have c1:decide (t.dims=aM u t.labels)=false:=decide_eq_false fun e=>h4 e.symm
  simp only[go_sem,seval,reduceCtorEq,c1,e1,e2];refine FnEnd.wk (Wk.trans (Wk.nilS 3 0 1 _ _ _ rfl rfl) (Wk.trans (Wk.nilS 3 1 1 _ _ _ rfl rfl) (Wk.trans (Wk.nilS 3 2 1 _ _ _ rfl rfl) Wk.nogA))) ?_;exact zX
theorem L9{r:Rg}{a b:Ten}{wd n:Nat}(h:AlOk r a b wd n):∀k,k<n→(addE r (cutE (alT r a b).data wd k) (cutE a.data wd k)).length=wd:=fun k hk=>gM (jr h.lb hk) (jr h.la hk)
theorem FQ{r:Rg}{a b:Ten}{wd n:Nat}(h:alB r a b=true)(h':AlOk r a b wd n):qE (addE r) r a b=⟨a.labels,a.dims,opP (addE r) (alT r a b).data a.data wd n⟩:=by
 rw[FP h h',C0 (Ai r)]
theorem Ia{f:List Int→List Int→List Int}{r:Rg}{a b:Ten}(h:alB r a b=false):qE f r a b=⟨[],[],[]⟩:=by rw[qE,h];rfl
theorem yx{kk pp nn:Int}{t u:Ten}(a:I64 kk)(b:I64 pp)(c:I64 nn)(ht:TSz 1048576 t)(hu:TSz 1048576 u):
  Does Tryz.prog 51 [aY kk pp nn,tenA t,tenA u] [] (.tup [ownT 0 (qE (addE ⟨kk,pp,nn⟩) ⟨kk,pp,nn⟩ t u),.d (.bool (alB ⟨kk,pp,nn⟩ t u))]) (stoF (qE (addE ⟨kk,pp,nn⟩) ⟨kk,pp,nn⟩ t u)):=by
 refine zS Tryz.func51 sV ?_;unfold lC;refine zT ?_;(refine zC (Ij a b c ht hu) ?_);cases h1:alB ⟨kk,pp,nn⟩ t u
 ·have e2:=Ia (f:=addE ⟨kk,pp,nn⟩) h1
  simp only[go_sem,seval,reduceCtorEq,h1,e2];refine FnEnd.wk (Wk.trans (Wk.nilS 3 0 1 _ _ _ rfl rfl) (Wk.trans (Wk.nilS 3 1 1 _ _ _ rfl rfl) (Wk.trans (Wk.nilS 3 2 1 _ _ _ rfl rfl) Wk.nogA))) ?_;exact zX
 obtain⟨wd,n,ho⟩:=ER h1;have e2:=FQ h1 ho;have e3:alR ⟨kk,pp,nn⟩ t u=⟨t.labels,t.dims,(alT ⟨kk,pp,nn⟩ t u).data⟩:=by rw[alR,h1];rfl
 have hdl:=ht.d.len;have hxl:=ht.x.len;have hal:=ho.lb;have hla:=ho.la;have hwb:=ho.wb;have hn1:=ho.n1;have hpa:=ho.pa;have hw:=ho.w;have hf:=L9 ho;have hfb:=ho.fb;have hnw:n*wd≤4096*6:=Nat.mul_le_mul (by omega) hwb.2;simp only[go_sem,seval,reduceCtorEq,h1,e3];generalize hX:(alT ⟨kk,pp,nn⟩ t u).data=X at*
 refine aA (n) (mkB 39 274875809792) (fun k=>[(10,.d (.int k))]) (fun k=>[(6,iv (opTo (addE ⟨kk,pp,nn⟩) X t.data X wd k))]) (h1:=by first|(simp only[go_sem,seval,reduceCtorEq,nz,na,n1,z6];first|done|rfl)|rfl) (h2:=by first|(simp only[go_sem,seval,reduceCtorEq,nz,na,n1,z6];first|done|rfl)|rfl) (hr:=fun k hk=> ?_);unfold kc;refine zU ?_;(refine zC (gt (ds:=t.dims) ht.d.up.len (fun d hd=>(ho.ax.dim d hd).1) (by omega)) ?_);by_cases hlt:k<n
 ·have h2:(k:Int)<n:=by omega
  have hms:=fq (wd:=wd) hlt;have hol:=Hz hf hal hk;have hcut:=HA (z:=X) hf hk;have hput:=Hy (z:=X) hf hlt;unfold cutE at hcut hput;simp(disch:=omega) only[go_sem,seval,reduceCtorEq,hpa,h2]
  (refine Cw [4,5,6] (wK (ca:=t.labels) (cb:=t.dims) (cc:=opTo (addE ⟨kk,pp,nn⟩) X t.data X wd k) (l:=t.labels.length) (d:=t.dims.length) (x:=k) hw hwb (m:=X.length) (by omega) (by omega) (by omega)) (zd rfl) ?_ ?_ ?_ ?_ ?_ ?_;(simp only[go_sem,seval,reduceCtorEq]);(first|rfl|simp only[go_sem,seval,reduceCtorEq]);(simp only[go_sem,seval,reduceCtorEq,vwOk]);(simp only[go_sem,seval,reduceCtorEq,idsL,idsA,List.contains_cons,Nat.reduceBEq,Bool.or_true,Bool.true_or]);(first|rfl|simp only[go_sem,seval,reduceCtorEq]));refine zU ?_
  (refine zD (iV (t:=t) (x:=k) hw (by omega) (by omega) (by omega) (by omega)) ?_);refine zU ?_;have hpl:=bQ (xs:=opTo (addE ⟨kk,pp,nn⟩) X t.data X wd k) (off:=k*wd) (ys:=addE ⟨kk,pp,nn⟩ ((X.drop (k*wd)).take wd) ((t.data.drop (k*wd)).take wd)) (by have:=hf k hlt;unfold cutE at this;omega);have hadd:=Ag (xs:=opTo (addE ⟨kk,pp,nn⟩) X t.data X wd k) (off:=k*wd) ho.ring hw (by rw[hcut];exact fB hfb (k*wd) wd) (fB ho.fa (k*wd) wd) (cK (by omega)) (by omega) (by omega);rw[hcut]at hadd
  (refine eu [6] false (hadd) (zd rfl) ?_ ?_ ?_ ?_ (zd rfl) ?_;(focus (simp only[go_sem,seval,reduceCtorEq,hpl];done));(focus (simp only[go_sem,seval,reduceCtorEq];done));(focus (simp only[go_sem,seval,reduceCtorEq,hpl];done));(focus (simp only[go_sem,seval,reduceCtorEq];done)));refine zV ?_;(refine Next.drop (mkB 39 274875809792) (by omega) (h1:= ?_) (h2:= ?_)<;>first|(simp only[go_sem,seval,reduceCtorEq,nz,na,n1,hput];first|done|rfl)|rfl|skip)
 ·have hkn:k=n:=by omega
  subst hkn;have h2:¬(k:Int)<k:=by omega
  have hall:=HC (f:=addE ⟨kk,pp,nn⟩) (x:=X) (y:=t.data) hal;have hopl:=mW (f:=addE ⟨kk,pp,nn⟩) (x:=X) (y:=t.data) hf k (Nat.le_refl _);simp(disch:=omega) only[go_sem,seval,reduceCtorEq,hpa,h2,e2,hall];(refine zE ?_ ?_<;>try simp only[go_sem,seval,reduceCtorEq])
  all_goals rw[hopl,hal]
set_option maxRecDepth 100000
theorem Dt{ls keep:List Int}(h:ls.length≤1048576)(hk:keep.length≤1048576):Does Tryz.prog 149 [.d (ints ls),.d (ints keep)] [] (.own 0 0 (ls.filter (has keep)).length) [some ⟨1,true,iv (ls.filter (has keep))⟩]:=by
 refine zS Tryz.func149 vJ ?_;unfold nY;refine zT ?_;(refine bC (Wk.nilE 5 1 _ _ rfl) ?_;simp only[go_sem,seval,reduceCtorEq]);refine aA (ls.length) (mkB 23 4192384) (fun k=>[(5,.own 0 0 ((ls.take k).filter (has keep)).length),(10,.d (.int k))]) (fun k=>[(0,iv ((ls.take k).filter (has keep)))]) (h1:=by first|(simp only[go_sem,seval,reduceCtorEq,nz,na,n1,List.take_zero,List.filter_nil,br];first|done|rfl)|rfl) (h2:=by first|(simp only[go_sem,seval,reduceCtorEq,nz,na,n1,List.take_zero,List.filter_nil,br];first|done|rfl)|rfl) (hr:=fun k hk=> ?_);unfold mn;have hfl:=dS ls k (has keep)
 by_cases hlt:k<ls.length
 ·have d1:(k:Int)<ls.length:=by omega
  have g:ls[k]? =some ls[k]:=zg hlt;simp(disch:=omega) only[go_sem,seval,reduceCtorEq,d1,g];(refine zC (dO (xs:=keep) (x:=ls[k]) (by omega)) ?_);cases hh:has keep ls[k]
  ·have e:=dy (p:=has keep) hlt hh
   simp(disch:=omega) only[go_sem,seval,reduceCtorEq,hh];(refine Next.drop (mkB 23 4192384) (by omega) (h1:= ?_) (h2:= ?_)<;>first|(simp only[go_sem,seval,reduceCtorEq,nz,na,n1,e];first|done|rfl)|rfl|skip)
  ·have e:=dR (p:=has keep) hlt hh
   simp(disch:=omega) only[go_sem,seval,reduceCtorEq,hh]
   (repeat (refine And.intro (by omega) ?_))
   (refine Next.drop (mkB 23 4192384) (by omega) (h1:= ?_) (h2:= ?_)<;>first|(simp only[go_sem,seval,reduceCtorEq,nz,na,n1,e,List.length_append];first|done|rfl)|rfl|skip)
 ·have d1:¬(k:Int)<ls.length:=by omega
  obtain rfl:k=ls.length:=by omega
  simp(disch:=omega) only[go_sem,seval,reduceCtorEq,d1,List.take_length];exact zX
theorem yC{kk pp:Int}{wd:Nat}(h:1≤wd)(h4:kk=4):iv (aq kk pp wd)=.d (.int pp) :: iv (List.drop 1 (List.replicate wd (0:Int))):=by
 obtain⟨w,rfl⟩:∃w,wd=w+1:=⟨wd-1,by omega⟩;unfold aq;rw[if_pos h4]
 rfl
theorem yN{kk pp nn:Int}{wd:Nat}(hw:af ⟨kk,pp,nn⟩=wd)(h1:1≤wd∧wd≤6):Does Tryz.prog 35 [aY kk pp nn] [] (.own 0 0 wd) [some ⟨1,true,iv (aq kk pp wd)⟩]:=by
 have hz:=bz kk pp wd;refine zS Tryz.func35 xp ?_;unfold pR;refine zT ?_;(refine zC (eL kk pp nn) ?_ (by simp only[go_sem,seval,reduceCtorEq,hw]));simp(disch:=omega) only[go_sem,seval,reduceCtorEq,hw];refine And.intro ⟨by omega,by omega⟩ ?_;by_cases h4:kk=4
 ·have c:(kk==4)=true:=by simp [h4]
  have e:=yC (pp:=pp) h1.1 h4;have hlr:(List.replicate wd (0:Int)).length=wd:=List.length_replicate;simp(disch:=omega) only[go_sem,seval,reduceCtorEq,c];refine⟨by omega,by rw[hlr];omega, ?_⟩;rw[e];exact zX
 ·have c:(kk==4)=false:=by simp [h4]
  have e:aq kk pp wd=List.replicate wd 0:=by rw[aq,if_neg h4]
  simp(disch:=omega) only[go_sem,seval,reduceCtorEq,c,e];exact zX
theorem zr{kk pp nn:Int}{wd:Nat}(hw:af ⟨kk,pp,nn⟩=wd)(h1:1≤wd∧wd≤6):Does Tryz.prog 114 [aY kk pp nn] [] (.own 0 0 wd) [some ⟨1,true,iv (aq kk pp wd)⟩]:=by
 have hz:=bz kk pp wd;refine zS Tryz.func114 xi ?_;unfold pG;refine zT ?_;(refine zC (fW kk pp nn) ?_ (by simp only[go_sem,seval,reduceCtorEq,hw]));simp(disch:=omega) only[go_sem,seval,reduceCtorEq,hw];refine And.intro ⟨by omega,by omega⟩ ?_;by_cases h4:kk=4
 ·have c:(kk==4)=true:=by simp [h4]
  have e:=yC (pp:=pp) h1.1 h4;have hlr:(List.replicate wd (0:Int)).length=wd:=List.length_replicate;simp(disch:=omega) only[go_sem,seval,reduceCtorEq,c];refine⟨by omega,by rw[hlr];omega, ?_⟩;rw[e];exact zX
 ·have c:(kk==4)=false:=by simp [h4]
  have e:aq kk pp wd=List.replicate wd 0:=by rw[aq,if_neg h4]
  simp(disch:=omega) only[go_sem,seval,reduceCtorEq,c,e];exact zX
theorem zo{kk pp nn:Int}{wd n:Nat}{ls ds:List Int}(hw:af ⟨kk,pp,nn⟩=wd)(h1:1≤wd∧wd≤6)(hls:ls.length≤1048576)(hds:ds.length≤1048576)(hd:∀d∈ds,1≤d∧d≤100)(hn:aa ds=n)(hn2:n≤4096):
  Does Tryz.prog 81 [aY kk pp nn,.d (ints ls),.d (ints ds)] [] (ownT 0 ⟨ls,ds,repE (aq kk pp wd) n⟩) (stoT ⟨ls,ds,repE (aq kk pp wd) n⟩):=by
 have hz:=bz kk pp wd;have hmn:min (aa ds) 4097=(n:Int):=by omega
 refine zS Tryz.func81 xc ?_;unfold pz;refine zT ?_;(refine zC (qb (xs:=ls) (by omega)) ?_);refine zU ?_;(refine zC (qb (xs:=ds) (by omega)) ?_);refine zU ?_;(refine zC (iC (ds:=ds) (lim:=4096) (by omega) hd (by omega)) ?_ (by simp only[go_sem,seval,reduceCtorEq,hmn]));simp only[go_sem,seval,reduceCtorEq,hmn];(refine bC (Wk.nilS 4 2 1 _ _ _ rfl rfl) ?_;simp only[go_sem,seval,reduceCtorEq]);have hr0:repE (aq kk pp wd) 0=[]:=rfl
 refine aA (n) (mkB 27 67043328) (fun k=>[(8,.d (.int ((n:Int)-k)))]) (fun k=>[(4,[.own 2 0 ls.length,.own 3 0 ds.length,.own 5 0 (repE (aq kk pp wd) k).length]),(5,iv (repE (aq kk pp wd) k))]) (h1:=by first|(simp only[go_sem,seval,reduceCtorEq,nz,na,n1,hr0,br,Int.sub_zero];first|done|rfl)|rfl) (h2:=by first|(simp only[go_sem,seval,reduceCtorEq,nz,na,n1,hr0,br,Int.sub_zero];first|done|rfl)|rfl) (hr:=fun k hk=> ?_);unfold nD;have hrl:=dH (aq kk pp wd) k;have hkw:k*wd≤4096*6:=Nat.mul_le_mul (by omega) h1.2;rw[hz]at hrl;by_cases hlt:k<n
 ·have d1:(n:Int)-k>0:=by omega
  have e8:(n:Int)-k-1=(n:Int)-(k+1):=by omega
  simp(disch:=omega) only[go_sem,seval,reduceCtorEq,d1];(refine zD (zr (kk:=kk) (pp:=pp) (nn:=nn) hw h1) ?_);have htz:List.take wd (aq kk pp wd)=aq kk pp wd:=zt (by omega);have hle:(wd≤wd)=True:=by simp
  simp(disch:=omega) only[go_sem,seval,reduceCtorEq,hz,htz,hle,if_true]
  (repeat (refine And.intro (by omega) ?_))
  have hrn:repE (aq kk pp wd) (k+1)=repE (aq kk pp wd) k++aq kk pp wd:=rfl;(refine Next.drop (mkB 27 67043328) (by omega) (h1:= ?_) (h2:= ?_)<;>first|(simp only[go_sem,seval,reduceCtorEq,nz,na,n1,hrn,e8,List.length_append,hz];first|done|rfl)|rfl|skip)
 ·have d1:¬(n:Int)-k>0:=by omega
  obtain rfl:k=n:=by omega
  simp(disch:=omega) only[go_sem,seval,reduceCtorEq,d1];exact zX
theorem ti{kk pp nn:Int}{wd n:Nat}{ls ds z:List Int}(hz:z.length=wd)(h1:1≤wd∧wd≤6)(hls:ls.length≤1048576)(hds:ds.length≤1048576)(hd:∀d∈ds,1≤d)(hn:aa ds=n)(hn2:n≤4096):
  Does Tryz.prog 34 [aY kk pp nn,.d (ints ls),.d (ints ds),.d (ints z)] [] (ownT 0 ⟨ls,ds,repE z n⟩) (stoT ⟨ls,ds,repE z n⟩):=by
 refine zS Tryz.func34 sN ?_;unfold lm;refine zT ?_;(refine zC (cj (xs:=ls) (by omega)) ?_);refine zU ?_;(refine zC (cj (xs:=ds) (by omega)) ?_);refine zU ?_;(refine zC (gt (ds:=ds) (by omega) hd (by omega)) ?_);have hnw:n*wd≤4096*6:=Nat.mul_le_mul hn2 h1.2;have hm:((n:Int)*(z.length:Int))=((n*wd:Nat):Int):=by rw[hz,Int.natCast_mul]
 simp(disch:=omega) only[go_sem,seval,reduceCtorEq,hn,hm];refine And.intro (by omega) ?_;have hr0:repE z 0=[]:=rfl;refine aA (n) (mkB 36 34334572544) (fun k=>[(11,.d (.int k))]) (fun k=>[(4,[.own 2 0 ls.length,.own 3 0 ds.length,.own 5 0 (repE z k).length]),(5,iv (repE z k))]) (h1:=by first|(simp only[go_sem,seval,reduceCtorEq,nz,na,n1,hr0,br,zn];first|done|rfl)|rfl) (h2:=by first|(simp only[go_sem,seval,reduceCtorEq,nz,na,n1,hr0,br,zn];first|done|rfl)|rfl) (hr:=fun k hk=> ?_);unfold k7;have hrl:=dH z k;have hkw:k*wd≤4096*6:=Nat.mul_le_mul (by omega) h1.2;rw[hz]at hrl;by_cases hlt:k<n
 ·have d1:(k:Int)<n:=by omega
  have hrn:repE z (k+1)=repE z k++z:=rfl;simp(disch:=omega) only[go_sem,seval,reduceCtorEq,d1]
  (repeat (refine And.intro (by omega) ?_))
  (refine Next.drop (mkB 36 34334572544) (by omega) (h1:= ?_) (h2:= ?_)<;>first|(simp only[go_sem,seval,reduceCtorEq,nz,na,n1,hrn,List.length_append];first|done|rfl)|rfl|skip)
 ·have d1:¬(k:Int)<n:=by omega
  obtain rfl:k=n:=by omega
  simp(disch:=omega) only[go_sem,seval,reduceCtorEq,d1];exact zX
set_option maxRecDepth 100000
theorem NI:dv []=[]:=nr rfl
set_option maxRecDepth 100000
theorem B0{kk pp nn:Int}{wd n:Nat}{ls ds z:List Int}(hz:z.length=wd)(h1:1≤wd∧wd≤6)(hls:ls.length≤1048576)(hds:ds.length≤1048576)(hd:∀d∈ds,1≤d)(hn:aa ds=n)(hn2:n≤4096):
  Does Tryz.prog 34 [aY kk pp nn,.d (ints ls),.d (ints ds),.d (ints z)] [] (ownT 0 ⟨ls,ds,repE z n⟩) (stoF ⟨ls,ds,repE z n⟩):=(ti hz h1 hls hds hd hn hn2).nog [0,1,2] rfl
def conX(r:Rg)(wd:Nat)(a b:Ten):Nat→List Int
 |0=>List.replicate wd 0
 |i+1=>conE r wd a b i
theorem IS{r:Rg}{a b:Ten}{keep:List Int}{wd ua ub n N:Nat}(h:ConOk r a b keep wd ua ub n N):∀i,(conX r wd a b i).length=wd
 |0=>by simp [conX]
 |i+1=>h.el i
theorem Hh{xs ys:List Int}(h:xs.length=ys.length):putE xs 0 ys=ys:=by simp [putE,h]
set_option maxHeartbeats 2000000 in
theorem vR{kk pp nn:Int}{a b:Ten}{keep:List Int}(za:I64 kk)(zb:I64 pp)(zc:I64 nn)(ha:TSz 1048576 a)(hb:TSz 1048576 b)(hk:Sz 1048576 keep):
  Does Tryz.prog 119 [aY kk pp nn,tenA a,tenA b,.d (ints keep)] [] (.tup [ownT 0 (conT ⟨kk,pp,nn⟩ a b keep),.d (.bool (conB ⟨kk,pp,nn⟩ a b keep))]) (stoF (conT ⟨kk,pp,nn⟩ a b keep)):=by
 have hno:conB ⟨kk,pp,nn⟩ a b keep=false→conT ⟨kk,pp,nn⟩ a b keep=⟨[],[],[]⟩:=KO;have hkl:=hk.len;refine zS Tryz.func119 qv ?_;unfold iw;refine zT ?_;(refine zC (bM (t:=a) za zb zc ha.up) ?_);cases h1:al ⟨kk,pp,nn⟩ a.labels a.dims a.data
 ·have e:conB ⟨kk,pp,nn⟩ a b keep=false:=by simp only[conB,h1,Bool.false_and]
  simp only[go_sem,seval,reduceCtorEq,h1,e,hno e];refine FnEnd.wk (Wk.trans (Wk.nilS 3 0 1 _ _ _ rfl rfl) (Wk.trans (Wk.nilS 3 1 1 _ _ _ rfl rfl) (Wk.trans (Wk.nilS 3 2 1 _ _ _ rfl rfl) Wk.nogA))) ?_;exact zX
 simp only[go_sem,seval,reduceCtorEq,h1];(refine zC (bM (t:=b) za zb zc hb.up) ?_);cases h2:al ⟨kk,pp,nn⟩ b.labels b.dims b.data
 ·have e:conB ⟨kk,pp,nn⟩ a b keep=false:=by simp only[conB,h2,Bool.false_and,Bool.and_false]
  simp only[go_sem,seval,reduceCtorEq,h2,e,hno e];refine FnEnd.wk (Wk.trans (Wk.nilS 3 0 1 _ _ _ rfl rfl) (Wk.trans (Wk.nilS 3 1 1 _ _ _ rfl rfl) (Wk.trans (Wk.nilS 3 2 1 _ _ _ rfl rfl) Wk.nogA))) ?_;exact zX
 simp only[go_sem,seval,reduceCtorEq,h2];obtain⟨wa,ua,a1,a2,a3,a4,a5,a6,a7,a8,a9,a10⟩:=ct h1;obtain⟨wb,ub,b1,b2,b3,b4,b5,b6,b7,b8,b9,b10⟩:=ct h2;have hll:=qd a.labels b.labels;have l1:=a10.1;have l2:=b10.1;have hjd:=uE a b;have hpj:=xA a10 b10 (by omega) (by omega);cases hj:gZ a b
 ·have e:conB ⟨kk,pp,nn⟩ a b keep=false:=by simp only[conB,hj,Bool.and_false,Bool.false_and]
  (refine zC (Cp a10 b10 hj) ?_);simp only[go_sem,seval,reduceCtorEq,e,hno e];refine FnEnd.wk (Wk.trans (Wk.nilS 3 0 1 _ _ _ rfl rfl) (Wk.trans (Wk.nilS 3 1 1 _ _ _ rfl rfl) (Wk.trans (Wk.nilS 3 2 1 _ _ _ rfl rfl) Wk.nogA))) ?_;exact zX
 (refine zC (Dx a10 b10 hj) ?_);have htj:List.take (aF a.labels b.labels).length (aB a b)=aB a b:=zt (by omega);refine zU ?_;(refine zC (gt (ds:=aB a b) (by omega) (fun d hd=>(sW a10 b10 d hd).1) (by omega)) ?_ (by simp only[go_sem,seval,reduceCtorEq,hjd,htj]));by_cases hp:aa (aB a b)≤65536
 rotate_left
 ·have e:conB ⟨kk,pp,nn⟩ a b keep=false:=by rw[conB,decide_eq_false hp];simp
  have c:aa (aB a b)>65536:=by omega
  simp only[go_sem,seval,reduceCtorEq,c,e,hno e];refine FnEnd.wk (Wk.trans (Wk.nilS 3 0 1 _ _ _ rfl rfl) (Wk.trans (Wk.nilS 3 1 1 _ _ _ rfl rfl) (Wk.trans (Wk.nilS 3 2 1 _ _ _ rfl rfl) Wk.nogA))) ?_;exact zX
 have c:¬ aa (aB a b)>65536:=by omega
 simp only[go_sem,seval,reduceCtorEq,c];(refine zC (Dt (ls:=aF a.labels b.labels) (keep:=keep) (by omega) hkl) ?_);have hfl:(conK a b keep).length≤24:=by
  have:=dS (aF a.labels b.labels) (aF a.labels b.labels).length (has keep);rw[List.take_length]at this
  show ((aF a.labels b.labels).filter (has keep)).length≤24
  omega
 have hcl:(conD a b keep).length=(conK a b keep).length:=List.length_map ..;have hnd:(conL a b).Nodup:=xz (bE a10) (bE b10);rw[show (aF a.labels b.labels).filter (has keep)=conK a b keep from rfl,show aF a.labels b.labels=conL a b from rfl];rw[show aF a.labels b.labels=conL a b from rfl]at hll hjd htj;refine zV ?_;refine⟨by omega, ?_⟩
 refine aA ((conK a b keep).length) (mkB 141 38685623921825124377395200) (fun k=>[(60,.d (.int k))]) (fun k=>[(7,iv (mix (conD a b keep) (List.replicate (conK a b keep).length 0) k))]) (h1:=by first|(simp only[go_sem,seval,reduceCtorEq,nz,na,n1,cA];first|done|rfl)|rfl) (h2:=by first|(simp only[go_sem,seval,reduceCtorEq,nz,na,n1,cA];first|done|rfl)|rfl) (hr:=fun k hk=> ?_);unfold gN;have hmz:(conD a b keep).length=(List.replicate (conK a b keep).length (0:Int)).length:=by simp [hcl]
 by_cases hlt:k<(conK a b keep).length
 ·have d1:(k:Int)<(conK a b keep).length:=by omega
  have g:(conK a b keep)[k]? =some (conK a b keep)[k]:=zg hlt;have hKm:(conK a b keep)[k]∈conL a b:=(List.mem_filter.1 (List.getElem_mem hlt)).1;simp(disch:=omega) only[go_sem,seval,reduceCtorEq,d1,g]
  refine aA ((conL a b).length) (mkB 141 19342517965928887442866176) (fun q=>[(67,.d (.int q))]) (fun q=>[(7,iv (mix (conD a b keep) (List.replicate (conK a b keep).length 0) (if (conK a b keep)[k]∈(conL a b).take q then k+1 else k)))]) (h1:=by first|(simp only[go_sem,seval,reduceCtorEq,nz,na,n1,List.take_zero,List.not_mem_nil,if_false];first|done|rfl)|rfl) (h2:=by first|(simp only[go_sem,seval,reduceCtorEq,nz,na,n1,List.take_zero,List.not_mem_nil,if_false];first|done|rfl)|rfl) (hr:=fun q hq=> ?_);unfold gQ;by_cases hltq:q<(conL a b).length
  ·have d2:(q:Int)<(conL a b).length:=by omega
   have d3:(q:Int)<(aB a b).length:=by omega
   have gq:(conL a b)[q]? =some (conL a b)[q]:=zg hltq;have gd:(aB a b)[q]? =some ((aB a b).getD q 0):=by rw[ac (by omega)];exact zg (by omega)
   have hfr:=dQ hnd hltq;by_cases hx:(conL a b)[q]=(conK a b keep)[k]
   ·have hxe:((conL a b)[q]==(conK a b keep)[k])=true:=by simp [hx]
    have e0:¬(conK a b keep)[k]∈(conL a b).take q:=by rw[← hx];exact hfr
    have e1:(conK a b keep)[k]∈(conL a b).take (q+1):=by rw[ba hltq];exact List.mem_append_right _ (by rw[hx];exact List.mem_singleton_self _)
    have hml:=kD (k:=k) hmz;have hmn:=gE (k:=k) hmz (show (conD a b keep)[k]? =some ((aB a b).getD q 0)by
     rw[← DT hnd hltq,hx,conD,List.getElem?_map,g];rfl)
    simp(disch:=omega) only[go_sem,seval,reduceCtorEq,d2,gq,hxe,d1,d3,gd,e0];refine⟨by omega, ?_⟩;(refine Next.drop (mkB 141 19342517965928887442866176) (by omega) (h1:= ?_) (h2:= ?_)<;>first|(simp only[go_sem,seval,reduceCtorEq,nz,na,n1,hmn,e1];first|done|rfl)|rfl|skip)
   ·have hxe:((conL a b)[q]==(conK a b keep)[k])=false:=by simp [hx]
    have e1:((conK a b keep)[k]∈(conL a b).take (q+1))=((conK a b keep)[k]∈(conL a b).take q):=by
     rw[ba hltq,List.mem_append,List.mem_singleton,eq_iff_iff];exact⟨fun h=>h.resolve_right (fun e=>hx e.symm),.inl⟩
    simp(disch:=omega) only[go_sem,seval,reduceCtorEq,d2,gq,hxe];(refine Next.drop (mkB 141 19342517965928887442866176) (by omega) (h1:= ?_) (h2:= ?_)<;>first|(simp only[go_sem,seval,reduceCtorEq,nz,na,n1,e1];first|done|rfl)|rfl|skip)
  ·have d2:¬(q:Int)<(conL a b).length:=by omega
   have htq:List.take q (conL a b)=conL a b:=zt (by omega);simp(disch:=omega) only[go_sem,seval,reduceCtorEq,d2,htq,hKm];exact Next.drop (mkB 141 38685623921825124377395200) (by omega)
 ·have d1:¬(k:Int)<(conK a b keep).length:=by omega
  have hf:mix (conD a b keep) (List.replicate (conK a b keep).length 0) k=conD a b keep:=ji (by simp;omega) (by omega);have htk:List.take (conK a b keep).length (conD a b keep)=conD a b keep:=zt (by omega);simp(disch:=omega) only[go_sem,seval,reduceCtorEq,d1,hf];(refine zC (lI (t:=⟨conK a b keep,conD a b keep,[]⟩) (IW (keep:=keep) a10 b10 ha hb LQ).up) ?_ (by simp only[go_sem,seval,reduceCtorEq,hcl,htk,NI]));rcases dd (conK a b keep) (conD a b keep)with hs|⟨s1,s2,s3,s4⟩
  ·have e:conB ⟨kk,pp,nn⟩ a b keep=false:=by rw[conB,hs];simp
   simp only[go_sem,seval,reduceCtorEq,hs,e,hno e];refine FnEnd.wk (Wk.trans (Wk.nilS 3 0 1 _ _ _ rfl rfl) (Wk.trans (Wk.nilS 3 1 1 _ _ _ rfl rfl) (Wk.trans (Wk.nilS 3 2 1 _ _ _ rfl rfl) Wk.nogA))) ?_;exact zX
  have e:conB ⟨kk,pp,nn⟩ a b keep=true:=by
   simp only[conB,hj,h1,h2,hp,Bool.true_and,decide_true];exact decide_eq_true (by omega)
  have c3:(aT (conK a b keep) (conD a b keep)== -1)=false:=by rw[s3];simp;omega
  obtain⟨wd,na',nb',n,N,h⟩:=IV e;have hwb:=h.wb;have hpn:=h.io.pn;have hn1:=h.io.n1;have hpN:=h.pN;have hN1:=h.N1;simp only[go_sem,seval,reduceCtorEq,c3];(refine zD (yN (kk:=kk) (pp:=pp) (nn:=nn) h.w hwb) ?_);have hzt:List.take wd (aq kk pp wd)=aq kk pp wd:=zt (by rw[bz];omega);refine zU ?_;(refine zC (B0 (kk:=kk) (pp:=pp) (nn:=nn) (ls:=conK a b keep) (ds:=conD a b keep) (bz kk pp wd) hwb (by omega) (by omega) (fun d hd=>(s1.dim d hd).1) hpn hn1.2) ?_ (by simp only[go_sem,seval,reduceCtorEq,hcl,htk,bz,hzt]));refine zU ?_;(refine zD (eS (t:=a) (L:=conL a b) a10 (by omega) (by omega)) ?_)
  refine zU ?_;(refine zD (eS (t:=b) (L:=conL a b) b10 (by omega) (by omega)) ?_);refine zU ?_;have hzl:=h.zl;rw[show (Rg.mk kk pp nn).k=kk from rfl,show (Rg.mk kk pp nn).p=pp from rfl]at hzl;have htz:List.take (n*wd) (repE (aq kk pp wd) n)=repE (aq kk pp wd) n:=zt (by omega);(refine zC (eS (t:=⟨conK a b keep,conD a b keep,repE (aq kk pp wd) n⟩) (L:=conL a b) h.io.ax (by show aa (conD a b keep)≤4096;omega) (by omega)) ?_ (by simp only[go_sem,seval,reduceCtorEq,hcl,htk,hzl,htz]));refine zV ?_;refine⟨by omega, ?_⟩;have hw:=h.w
  (refine zC (eL kk pp nn) ?_ (by simp only[go_sem,seval,reduceCtorEq,hw]));simp(disch:=omega) only[go_sem,seval,reduceCtorEq,hw];refine⟨⟨by omega,by omega⟩, ?_⟩;have hd0:List.replicate (conL a b).length 0=ab (aB a b) 0:=by rw[Ga,hjd]
  have hc0:fE ⟨kk,pp,nn⟩ wd a b keep (repE (aq kk pp wd) n) 0=repE (aq kk pp wd) n:=rfl;have hx0:List.replicate wd 0=conX ⟨kk,pp,nn⟩ wd a b 0:=rfl;have hdb:∀d∈aB a b,1≤d∧d≤1000:=fun d hd=>by have:=h.ia.dbd d hd;omega
  simp only[hd0,hx0];refine rO (0) (fun i=>N-i) (mkB 141 2787593144624031034157137155550548859027968) (fun i=>i<N) (fun i=>[]) (fun i=>[(12,iv (fE ⟨kk,pp,nn⟩ wd a b keep (repE (aq kk pp wd) n) i)),(16,iv (ab (aB a b) (i:Int))),(17,iv (conX ⟨kk,pp,nn⟩ wd a b i))]) (hi:=by omega) (h1:=by first|(simp only[go_sem,seval,reduceCtorEq,nz,na,n1,hc0,hd0,hx0];first|done|rfl)|rfl) (h2:=by first|(simp only[go_sem,seval,reduceCtorEq,nz,na,n1,hc0,hd0,hx0];first|done|rfl)|rfl) (hr:=fun i hi=> ?_);unfold gV;obtain⟨htl,htf⟩:=xS h h.zl h.zf i
  rw[show (Rg.mk kk pp nn).k=kk from rfl,show (Rg.mk kk pp nn).p=pp from rfl]at htl htf;have hxl:=IS h i;have hdl:=aJ (aB a b) i;have hdl1:=aJ (aB a b) (i+1);have hsa:(List.map (ah a.labels a.dims) (conL a b)).length=(conL a b).length:=List.length_map ..;have hsb:(List.map (ah b.labels b.dims) (conL a b)).length=(conL a b).length:=List.length_map ..;have hso:(List.map (ah (conK a b keep) (conD a b keep)) (conL a b)).length=(conL a b).length:=List.length_map ..;have ta:List.take (conL a b).length (List.map (ah a.labels a.dims) (conL a b))=List.map (ah a.labels a.dims) (conL a b):=zt (by omega)
  have tb:List.take (conL a b).length (List.map (ah b.labels b.dims) (conL a b))=List.map (ah b.labels b.dims) (conL a b):=zt (by omega);have tO:List.take (conL a b).length (List.map (ah (conK a b keep) (conD a b keep)) (conL a b))=List.map (ah (conK a b keep) (conD a b keep)) (conL a b):=zt (by omega);have tx:List.take (conL a b).length (ab (aB a b) i)=ab (aB a b) i:=zt (by omega);obtain⟨oa,oa'⟩:=h.ia.off i;obtain⟨ob,ob'⟩:=h.ib.off i;obtain⟨oo,oo'⟩:=h.io.off i;have hna:=h.ia.n1;have hnb:=h.ib.n1;have ca:=h.ia.cut h.la i;have cb:=h.ib.cut h.lb i;have co:=h.io.cut htl i
  have hnw:n*wd≤4096*6:=Nat.mul_le_mul hn1.2 hwb.2;have hxa:=ha.x.len;have hxb:=hb.x.len;have hnx:fE ⟨kk,pp,nn⟩ wd a b keep (repE (aq kk pp wd) n) (i+1)=putE (fE ⟨kk,pp,nn⟩ wd a b keep (repE (aq kk pp wd) n) i) (bK (conK a b keep) (conD a b keep) (conL a b) (aB a b) i*wd) (addE ⟨kk,pp,nn⟩ (((fE ⟨kk,pp,nn⟩ wd a b keep (repE (aq kk pp wd) n) i).drop (bK (conK a b keep) (conD a b keep) (conL a b) (aB a b) i*wd)).take wd) (conE ⟨kk,pp,nn⟩ wd a b i)):=rfl;have hnX:conX ⟨kk,pp,nn⟩ wd a b (i+1)=conE ⟨kk,pp,nn⟩ wd a b i:=rfl;obtain⟨hnl,_⟩:=xS h h.zl h.zf (i+1)
  rw[show (Rg.mk kk pp nn).k=kk from rfl,show (Rg.mk kk pp nn).p=pp from rfl]at hnl;have hfin:=KP h;have hel:=h.el i;have hef:=h.ef i;have hmE:mulE ⟨kk,pp,nn⟩ ((a.data.drop (bK a.labels a.dims (conL a b) (aB a b) i*wd)).take wd) ((b.data.drop (bK b.labels b.dims (conL a b) (aB a b) i*wd)).take wd)=conE ⟨kk,pp,nn⟩ wd a b i:=rfl;generalize fE ⟨kk,pp,nn⟩ wd a b keep (repE (aq kk pp wd) n) i=X at*;generalize conX ⟨kk,pp,nn⟩ wd a b i=Z at*;generalize conE ⟨kk,pp,nn⟩ wd a b i=E at*;have hpE:putE Z 0 E=E:=Hh (by omega);have htt:List.take (n*wd) X=X:=zt (by omega)
  have tE:List.take wd E=E:=zt (by omega);have tZ:List.take wd Z=Z:=zt (by omega);have la1:=cK ca;have lb1:=cK cb;have lo1:=cK co;have had:=gM (r:=⟨kk,pp,nn⟩) lo1 hel;have hpl:=bQ (xs:=X) (off:=bK (conK a b keep) (conD a b keep) (conL a b) (aB a b) i*wd) (ys:=addE ⟨kk,pp,nn⟩ ((X.drop (bK (conK a b keep) (conD a b keep) (conL a b) (aB a b) i*wd)).take wd) E) (by omega);refine zU ?_;(refine zD (tn (a:=List.map (ah a.labels a.dims) (conL a b)) (b:=ab (aB a b) i) (by omega) (by omega) (fun q _=>h.ia.dotb i q)) ?_ (by simp only[go_sem,seval,reduceCtorEq,ta,tx,hsa,hdl,hjd]))
  simp only[go_sem,seval,reduceCtorEq,oa];(refine zD (iV (t:=a) (x:=bK a.labels a.dims (conL a b) (aB a b) i) hw (by omega) ca (by omega) (by omega)) ?_);refine zU ?_;(refine zD (tn (a:=List.map (ah b.labels b.dims) (conL a b)) (b:=ab (aB a b) i) (by omega) (by omega) (fun q _=>h.ib.dotb i q)) ?_ (by simp only[go_sem,seval,reduceCtorEq,tb,tx,hsb,hdl,hjd]));simp only[go_sem,seval,reduceCtorEq,ob];(refine zD (iV (t:=b) (x:=bK b.labels b.dims (conL a b) (aB a b) i) hw (by omega) cb (by omega) (by omega)) ?_);refine zU ?_
  (refine eu [17] false (Fu h.ring hw (fB h.fa _ _) (fB h.fb _ _) la1 lb1 (xs:=Z) (off:=0) (by omega) (by omega)) (zd rfl) ?_ ?_ ?_ ?_ (zd rfl) ?_;(focus (simp only[go_sem,seval,reduceCtorEq,hmE,hpE,hxl,hel,la1,lb1,List.take_take,Nat.min_self];done));(focus (simp only[go_sem,seval,reduceCtorEq];done));(focus (simp only[go_sem,seval,reduceCtorEq,hmE,hpE,hxl,hel,la1,lb1,List.take_take,Nat.min_self];done));(focus (simp only[go_sem,seval,reduceCtorEq];done)));simp only[go_sem,seval,reduceCtorEq,hmE,hpE]
  (refine zD (tn (a:=List.map (ah (conK a b keep) (conD a b keep)) (conL a b)) (b:=ab (aB a b) i) (by omega) (by omega) (fun q _=>h.io.dotb i q)) ?_ (by simp only[go_sem,seval,reduceCtorEq,tO,tx,hso,hdl,hjd]));simp only[go_sem,seval,reduceCtorEq,oo]
  (refine Cw [10,11,12] (wK (kk:=kk) (pp:=pp) (nn:=nn) (ca:=conK a b keep) (cb:=conD a b keep) (cc:=X) (l:=(conK a b keep).length) (d:=(conD a b keep).length) (x:=bK (conK a b keep) (conD a b keep) (conL a b) (aB a b) i) hw hwb (m:=(repE (aq kk pp wd) n).length) (by omega) (by omega) (by omega)) (zd rfl) ?_ ?_ ?_ ?_ ?_ ?_;(simp only[go_sem,seval,reduceCtorEq]);(first|rfl|simp only[go_sem,seval,reduceCtorEq]);(simp only[go_sem,seval,reduceCtorEq,vwOk]);(simp only[go_sem,seval,reduceCtorEq,idsL,idsA,List.contains_cons,Nat.reduceBEq,Bool.or_true,Bool.true_or]);(first|rfl|simp only[go_sem,seval,reduceCtorEq]))
  refine zU ?_;(refine eu [12] false (Ag h.ring hw (xs:=X) (y:=E) (off:=bK (conK a b keep) (conD a b keep) (conL a b) (aB a b) i*wd) (fB htf _ _) hef hel (by omega) (by omega)) (zd rfl) ?_ ?_ ?_ ?_ (zd rfl) ?_;(focus (simp only[go_sem,seval,reduceCtorEq,hpl,hel,tE];done));(focus (simp only[go_sem,seval,reduceCtorEq];done));(focus (simp only[go_sem,seval,reduceCtorEq,hpl,hel,tE];done));(focus (simp only[go_sem,seval,reduceCtorEq];done)));refine zU ?_;have htD:List.take (conL a b).length (aB a b)=aB a b:=zt (by omega)
  (refine eu [16] false (oC (ds:=aB a b) (n:=i) hdb (by omega) (by omega)) (zd rfl) ?_ ?_ ?_ ?_ (zd rfl) ?_;(focus (simp only[go_sem,seval,reduceCtorEq,hjd,htD,hdl,hdl1];done));(focus (simp only[go_sem,seval,reduceCtorEq];done));(focus (simp only[go_sem,seval,reduceCtorEq,hjd,htD,hdl,hdl1];done));(focus (simp only[go_sem,seval,reduceCtorEq];done)));by_cases hlast:i+1<N
  ·have hde:decide (((i:Int)+1) % aa (aB a b)≠0)=true:=by
    rw[hpN,Int.emod_eq_of_lt (by omega) (by omega)];exact decide_eq_true (by omega)
   simp(disch:=omega) only[go_sem,seval,reduceCtorEq,hde];(refine NextS.drop (mkB 141 2787593144624031034157137155550548859027968) (i+1) (by omega) (by omega) (h1:= ?_) (h2:= ?_)<;>first|(simp only[go_sem,seval,reduceCtorEq,nz,na,n1,hnx,hnX];first|done|rfl)|rfl|skip)
  ·have hN:N=i+1:=by omega
   have hde:decide (((i:Int)+1) % aa (aB a b)≠0)=false:=by
    have:(i:Int)+1=N:=by omega
    rw[hpN,this,Int.emod_self]
    rfl
   rw[hN,hnx]at hfin;rw[hnx]at hnl;simp(disch:=omega) only[go_sem,seval,reduceCtorEq,hde,IT e h,hfin,e];refine FnEnd.wk Wk.nogA ?_;(refine zE ?_ ?_<;>try simp only[go_sem,seval,reduceCtorEq])
   all_goals rw[hzl,hnl]
end Go.Proofs.YtobhmajhachnaaaGreatDoor
