/-
 Lists of texts as cells; texts of ints; texts joined. No condition.
-/
import Derived.Test.YtobhmajhachnaaaGreatDoorRng
import Derived.Lib.ItoaNum
import Derived.Lib.Join
set_option linter.unusedSimpArgs false
set_option linter.unusedVariables false
namespace Go.Proofs.YtobhmajhachnaaaGreatDoor
open Go.RowKit Go.Lift Plain
def xv(xs:List ByteArray):List AV:=xs.map fun x=>.d (.str x)
def dxv(xs:List ByteArray):List D:=xs.map .str
def strs(xs:List ByteArray):D:=.sl xs.length (dxv xs)
section
variable {xs ys : List ByteArray}
theorem Lo:(xv xs).length=xs.length:=by simp [xv]
theorem KG(i:Nat):(dxv xs)[i]? =xs[i]?.map .str:=by simp [dxv]
theorem Jf(n:Nat):(xv xs).take n=xv (xs.take n):=by simp [xv,List.map_take]
theorem Jh(n:Nat):(xv xs).drop n=xv (xs.drop n):=by simp [xv,List.map_drop]
theorem Lp:xv xs++xv ys=xv (xs++ys):=by simp [xv]
theorem Jg(x:ByteArray):xv xs++[.d (.str x)]=xv (xs++[x]):=by simp [xv]
theorem M9(f:Nat→Option Nat):rnL f (xv xs)=xv xs:=by
 induction xs with
 |nil=>rfl
 |cons x l ih=>simp only[xv,List.map_cons,rnL,rn]at ih ⊢;rw[ih]
theorem Gg:cB (xv xs)=some (dxv xs):=by
 induction xs with
 |nil=>rfl
 |cons x l ih=>simp only[xv,dxv,List.map_cons,cB,tt]at ih ⊢;rw[ih]
theorem Lt:(xv xs).all trB=true:=by
 induction xs with
 |nil=>rfl
 |cons x l ih=>simp only[xv,List.map_cons,List.all_cons]at ih ⊢;rw[ih];rfl
theorem Gl(n:Nat)(x:ByteArray):Go.Lift.cl n [.d (.str x)]=xv (List.replicate n x):=by
 unfold Go.Lift.cl xv
 induction n with
 |zero=>rfl
 |succ n ih=>rw[List.replicate_succ,List.flatten_cons,ih,List.replicate_succ];rfl
theorem Gn:xv []=[]:=nr rfl
end
attribute [go_sem] Lo KG Jf Jh Lp Jg M9 Gg Lt Gl
theorem Does.of_callsA{P:Program}{f:FuncId}{args:List AV}{res:AV}{v:Value}(hv:∀w γ φ s,Rel w γ φ s res v)
  (h:∀w γ φ vals,Adm γ w→RelL w γ φ (at_ []) args vals→Calls P f vals.toArray w fun e w'=>e=.returned v∧Below w.heap.size w w'):Does P f args [] res []:=by
 intro γ φ w vals hS hr
 refine(h w γ φ vals hS.adm hr).mono fun e w' hq=> ?_
 obtain⟨rfl,hb⟩:=hq;refine⟨v,γ,φ,rfl,⟨hb.os,hb.tape,hb.output,hb.size,fun b hb' _=>⟨hb.block b hb',rfl⟩,fun b cur T f e=>⟨cur, ?_,rfl⟩⟩,fun k R e=> ?_,⟨fun b k p e=>Nat.lt_of_lt_of_le (hS.bound b k p e) hb.size,fun k R e=> ?_,fun b l hl=>by
  obtain⟨h1,cur,T,f,h2,h3⟩:=hS.adm b l hl;exact⟨h1,cur,T,f,h2,(hb.block b (Array.getElem?_eq_some_iff.1 h3).1).trans h3⟩⟩,hv _ _ _ _⟩
 ·exact(hb.block b (Array.getElem?_eq_some_iff.1 e).1).trans e
 ·simp [at_]at e
 ·simp [at_]at e
theorem H7(x:ByteArray):∀w γ φ s,Rel w γ φ s (.d (.str x)) (.string x):=fun w γ φ s=>by simp only[Rel,Rd]
theorem BS{w:World}{I:Nat→Prop}:∀{xs:List ByteArray} {b o:Nat},RdL w I (dxv xs) b o→∀(j:Nat) x,xs[j]? =some x→w.cell? ⟨b,o+j,none⟩=some (.string x)
 | [],_,_,_,j,x,h=>by simp at h
 |y :: l,b,o,hr,j,x,h=>by
  simp only[dxv,List.map_cons,RdL,Rd]at hr;obtain⟨⟨v,hc,rfl⟩,hl⟩:=hr;cases j with
  |zero=>simp only[List.getElem?_cons_zero,zj]at h;subst h;exact hc
  |succ j=>
   have:=BS (xs:=l) hl j x (by simpa using h)
   rwa [show o+1+j=o+(j+1)by omega]at this
def cJ(n:Int):ByteArray:=⟨(Lib.itoa n).toArray⟩
def be(xs:List ByteArray)(sep:ByteArray):ByteArray:=⟨(Lib.join (xs.map (·.data.toList)) sep.data.toList).toArray⟩
theorem J5{a b:ByteArray}(h:a.data.toList=b.data.toList):a=b:=by
 cases a;cases b;simp only[ByteArray.mk.injEq];exact Array.toList_inj.1 h
theorem Bf(a:ByteArray):a.size=a.data.toList.length:=by rw[Array.length_toList];rfl
theorem J6(a b:ByteArray):(a++b).data.toList=a.data.toList++b.data.toList:=by rw[ByteArray.data_append,Array.toList_append]
theorem qe(sep:ByteArray):be [] sep=⟨#[]⟩:=by
 unfold be;rw[List.map_nil,Lib.join_nil]
theorem FO(sep x:List UInt8):∀(r:List (List UInt8)),Lib.join (r++[x]) sep=if r=[] then x else Lib.join r sep++sep++x
 | []=>by simp [Lib.join_one]
 |y :: r=>by
  rw[if_neg (by simp),List.cons_append,Lib.join_cons,Lib.join_cons];simp [Lib.joinTail]
theorem rA(xs:List ByteArray)(x sep:ByteArray):be (xs++[x]) sep=if xs=[] then x else be xs sep++sep++x:=by
 refine J5 ?_;simp only[be,List.map_append,List.map_cons,List.map_nil,FO];by_cases h:xs=[]
 ·subst h;simp
 ·rw[if_neg (by simp [h]),if_neg h,J6,J6]
theorem n4{sep:ByteArray}{c:Nat}(hs:sep.size≤1):∀(n:Nat) (xs:List ByteArray),xs.length=n→(∀x∈xs,x.size≤c)→(be xs sep).size≤n*(c+1)
 |0,xs,hn,_=>by
  rw[List.eq_nil_of_length_eq_zero hn,qe];simp [ByteArray.size]
 |n+1,xs,hn,h=>by
  have hne:xs≠[]:=fun e=>by rw[e]at hn;simp at hn
  have e:=List.dropLast_concat_getLast hne;have h1:=n4 hs n xs.dropLast (by simp [hn]) (fun x hx=>h x ((List.dropLast_sublist xs).mem hx));have h2:=h _ (List.getLast_mem hne);rw[← e,rA];split
  ·rw[Nat.succ_mul];omega
  ·simp only[ByteArray.size_append]
   rw[Nat.succ_mul];omega
theorem x3:∀(k u:Nat),u<10 ^ (k+1)→Lib.nDigits u≤k+1
 |0,u,h=>by rw[Lib.nDigits_small (by simpa using h)];omega
 |k+1,u,h=>by
  by_cases hu:u<10
  ·rw[Lib.nDigits_small hu];omega
  ·rw[Lib.nDigits_big hu]
   have:=x3 k (u / 10) (by rw[Nat.pow_succ]at h;omega);omega
theorem fY{n:Int}(h:0≤n∧n≤9223372036854775807):(cJ n).size≤20:=by
 have:(cJ n).size=Lib.nDigits n.toNat:=by
  rw[Bf];simp only[cJ,Lib.itoa];rw[if_neg (by omega),Lib.decDigits_length]
 rw[this];exact x3 19 _ (by omega)
end Go.Proofs.YtobhmajhachnaaaGreatDoor
