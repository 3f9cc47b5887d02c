/-
 Contracts: an int read, texts split, lists of ints written and read. No condition.
-/
import Derived.Test.YtobhmajhachnaaaGreatDoorJobB
import Derived.Test.YtobhmajhachnaaaGreatDoorFmtA
import Derived.Test.YtobhmajhachnaaaGreatDoorHandA
import Derived.Lib.AtoiErrMem
import Derived.Test.YtobhmajhachnaaaGreatDoorMgJobsA
set_option linter.unusedSimpArgs false
set_option linter.unusedVariables false
namespace Go.Proofs.YtobhmajhachnaaaGreatDoor
open Go.RowKit Go.Lift Plain
set_option maxRecDepth 100000
theorem No(n:Int)(b:Bool):∀w γ φ s,Rel w γ φ s (.tup [.d (.int n),.d (.bool b)]) (.tuple #[.int .i64 n,.bool b]):=fun w γ φ s=>by
 simp only[Rel,RelL,Rd];exact⟨_,rfl,_,_,rfl,rfl,_,_,rfl,rfl,rfl⟩
theorem ParseInt_d{n:Int}(h:0≤n∧n<1000000000000000000):Does Tryz.prog 42 [.d (.str (cJ n))] [] (.tup [.d (.int n),.d (.bool true)]) []:=
 Does.of_callsA (No _ _) fun w γ φ vals hA hr=>by
  obtain⟨_,rfl,h0⟩:=rel1 hr;obtain rfl:=gc h0;have htab:=E4 hA;have ha:=Gh h.1;have hs:=Id h;have hI:(⟨(Lib.itoa n).toArray⟩:ByteArray)=cJ n:=rfl;generalize hS:cJ n=S at*
  show Calls Tryz.prog 42 #[.string S] w _
  go_enter Tryz.func42,Tryz.ntmps42
  go_wp2_with (first
   |(go_at_call 72;refine(Tryz.strconv_Atoi S n hs ha _).mono ?_;rintro e w1 ⟨rfl,t,rfl⟩)
   |(go_at_call 73;refine(Tryz.strconv_Itoa n (by omega) (by omega) _ (Lib.bytesWorld_var _ _ _ htab)).mono ?_;rintro e w1 ⟨rfl,k,os,rfl⟩))
  go_ret2
  exact⟨rfl,(Lib.bytesWorld_below w 5 t).trans ((CZ _ k os).mono (Lib.bytesWorld_below w 5 t).size)⟩
set_option maxRecDepth 100000
theorem FormatInts_d{xs:List Int}(hz:xs.length≤1048576)(hp:Pos xs):Does Tryz.prog 44 [.d (ints xs)] [] (.d (.str (be (texts xs) ⟨#[32]⟩))) []:=by
 have hsz:=fL (sep:=⟨#[32]⟩) (by decide) hp;refine zS Tryz.func44 sU ?_;unfold lw;refine zT ?_
 (repeat (refine And.intro (by omega) ?_))
 have e0:=tW;have et:=cr;have e1:([]:List ByteArray)++List.replicate xs.length ⟨#[]⟩=List.replicate xs.length ⟨#[]⟩:=by simp
 refine aA (xs.length) (mkB 24 4190256) (fun k=>[(11,.d (.int k))]) (fun k=>[(0,xv (texts (xs.take k)++List.replicate (xs.length-k) ⟨#[]⟩))]) (h1:=by first|(simp only[go_sem,seval,reduceCtorEq,nz,na,n1,e0,e1,Nat.sub_zero];first|done|rfl)|rfl) (h2:=by first|(simp only[go_sem,seval,reduceCtorEq,nz,na,n1,e0,e1,Nat.sub_zero];first|done|rfl)|rfl) (hr:=fun k hk=> ?_);unfold kb;by_cases hlt:k<xs.length
 ·have d1:(k:Int)<xs.length:=by omega
  have g:xs[k]? =some xs[k]:=zg hlt;have hq:=hp xs[k] (List.getElem_mem _);have hs:=ww hlt;simp(disch:=omega) only[go_sem,seval,reduceCtorEq,d1,g,Option.map_some];(refine zC (fx (n:=xs[k]) ⟨by omega,hq.2⟩) ?_);have hTl:(texts (xs.take k)).length=k:=by rw[cr,List.length_take];omega
  have hll:(texts (xs.take k)++List.replicate (xs.length-k) (⟨#[]⟩:ByteArray)).length=xs.length:=by rw[List.length_append,hTl,List.length_replicate];omega
  have hpu:List.take k (texts (xs.take k)++List.replicate (xs.length-k) (⟨#[]⟩:ByteArray))++[cJ xs[k]]++List.drop (k+1) (texts (xs.take k)++List.replicate (xs.length-k) ⟨#[]⟩)=texts (xs.take (k+1))++List.replicate (xs.length-(k+1)) ⟨#[]⟩:=by
   rw[List.take_append_of_le_length (by omega),zt (by omega),List.drop_append,List.drop_eq_nil_of_le (by omega),List.nil_append,List.drop_replicate,hs,hTl,show xs.length-k-(k+1-k)=xs.length-(k+1)by omega]
  simp(disch:=omega) only[go_sem,seval,reduceCtorEq,hll,hpu]
  (repeat (refine And.intro (by omega) ?_))
  exact Next.drop (mkB 24 4190256) (by omega)
 ·have d1:¬(k:Int)<xs.length:=by omega
  have hk:k=xs.length:=by omega
  have e:texts (xs.take k)++List.replicate (xs.length-k) ⟨#[]⟩=texts xs:=by rw[zt (by omega),show xs.length-k=0 by omega,List.replicate_zero,List.append_nil]
  simp(disch:=omega) only[go_sem,seval,reduceCtorEq,d1,e];have et2:(texts xs).take xs.length=texts xs:=zt (by rw[cr];exact Nat.le_refl _);have es:strs (texts xs)=.sl xs.length (dxv (texts xs)):=by unfold strs;rw[cr]
  (refine zC (w7 (xs:=texts xs) (sep:=⟨#[32]⟩) (by rw[cr];omega) (by omega)) ?_ (by simp only[go_sem,seval,reduceCtorEq,es,et,et2]));exact zX
theorem Split_d{xs:List ByteArray}{c:UInt8}(hx:xs≠[])(hc:∀x∈xs,c∉x.data.toList)(hs:(be xs ⟨#[c]⟩).size<4294967281):
  Does Tryz.prog 70 [.d (.str (be xs ⟨#[c]⟩)),.d (.str ⟨#[c]⟩)] [] (.d (strs xs)) []:=by
 obtain⟨c1,c2⟩:=DU hx hc;intro γ φ w vals hS hr;obtain⟨_,_,rfl,h0,h1⟩:=rel2 hr;obtain rfl:=gc h0;obtain rfl:=gc h1;obtain⟨_,cur,T,f,⟨m,h2⟩,h3⟩:=hS.adm _ _ (List.mem_cons_of_mem _ (List.mem_cons_self ..));have hm:w.cell? ⟨2,0,none⟩=some (.int .i64 m):=by
  unfold World.cell?;simp only[h3];have:cur[0]? =some (Value.int .i64 m):=by rw[← Array.getElem?_toList,h2];rfl
  simpa using this
 refine(Tryz.strings_Split (be xs ⟨#[c]⟩) ⟨#[c]⟩ m w hs hm (Nat.le_refl 1)).mono fun e w' hq=> ?_
 obtain⟨rfl,rfl⟩:=hq;obtain⟨hL,hS'⟩:=hS.allocIm (.cells ((Lib.splitB ⟨#[c]⟩ 0 (Lib.countB (be xs ⟨#[c]⟩) ⟨#[c]⟩) (be xs ⟨#[c]⟩)).map Value.string).toArray 9);refine⟨_,_,φ,rfl,Kst.alloc γ w _ .im,fun k R e=>by simp [at_]at e,hS', ?_⟩;simp only[Rel,strs,Rd];rw[c1];refine⟨_,_,rfl,Nat.le_refl _, ?_⟩;rw[c2];refine .inr ⟨_,_,rfl, ?_,RdL.of_get fun i x hx=> ?_⟩
 ·refine⟨?_,aC ..⟩
  show w.heap.size<(w.heap.push _).size
  rw[Array.size_push];exact Nat.lt_succ_self _
 ·unfold dxv at hx
  rw[List.getElem?_map,zm]at hx;obtain⟨t,ht,rfl⟩:=hx;refine⟨.string t, ?_,rfl⟩;have hp:(w.alloc (.cells (xs.map Value.string).toArray 9)).heap[w.heap.size]? =some (.cells (xs.map Value.string).toArray 9):=Array.getElem?_push_size;unfold World.cell?;rw[hp]
  show (xs.map Value.string).toArray[0+i]? =_
  rw[Nat.zero_add,List.getElem?_toArray,List.getElem?_map,ht]
  rfl
end Go.Proofs.YtobhmajhachnaaaGreatDoor
