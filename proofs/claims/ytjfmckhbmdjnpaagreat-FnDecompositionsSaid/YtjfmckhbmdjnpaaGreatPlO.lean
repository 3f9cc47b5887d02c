/-
 Plain lists: the tensors that are there while an order is followed. No condition.
-/
import Derived.Test.YtjfmckhbmdjnpaaGreatCoB
import Derived.Test.YtjfmckhbmdjnpaaGreatPlN
set_option linter.unusedSimpArgs false
set_option linter.unusedVariables false
namespace Go.Proofs.YtjfmckhbmdjnpaaGreat
open Plain
structure Osd where
 all:List (List Int)
 gone:List Bool
namespace Osd
def alive (s:Osd) (i:Nat):Bool:= !(s.gone.getD i true)
def nums (s:Osd):List Nat:=(List.range s.all.length).filter s.alive
def lab (s:Osd) (i:Nat):List Int:=s.all.getD i []
def off (a b:Nat) (i:Nat):Bool:=i !=a&&i !=b
def keep (s:Osd) (os:List Int) (a b:Nat):List Int:=os++(s.nums.filter (off a b)).flatMap s.lab
def res (s:Osd) (os:List Int) (a b:Nat):List Int:=(au (s.lab a) (s.lab b)).filter (has (s.keep os a b))
def step (s:Osd) (os:List Int) (a b:Nat):Osd:=⟨s.all++[s.res os a b],(s.gone.set a true).set b true++[false]⟩
end Osd
def natI (l:List Nat):List Int:=l.map fun (i:Nat)=>(i:Int)
def IB (ts:List Ten):Osd:=⟨ts.map Ten.labels,List.replicate ts.length false⟩
structure OsOk (s:Osd) (m:Nat):Prop where
 gl:s.gone.length=s.all.length
 lab:∀ l∈s.all,l.Nodup∧∀ x∈l,0≤x∧x≤99
 n:s.all.length=m
section
variable {s : Osd} {os : List Int} {a b m : Nat}
theorem OsOk.at (h:OsOk s m) (i:Nat):(s.lab i).Nodup∧∀ x∈s.lab i,0≤x∧x≤99:=by
 unfold Osd.lab
 by_cases hi:i<s.all.length
 ·rw[zq,zg hi];exact h.lab _ (List.getElem_mem hi)
 ·rw[zq,List.getElem?_eq_none (by omega)];simp
theorem OsOk.len (h:OsOk s m) (i:Nat):(s.lab i).length≤100:=gn (h.at i).1 (h.at i).2
theorem OsOk.join (h:OsOk s m) (a b:Nat):(au (s.lab a) (s.lab b)).Nodup∧(∀ x∈au (s.lab a) (s.lab b),0≤x∧x≤99)∧(au (s.lab a) (s.lab b)).length≤100:=by
 have h1:=mY (h.at a).1 (h.at b).1
 have h2:∀ x∈au (s.lab a) (s.lab b),0≤x∧x≤99:=fun x hx=>(ba.1 hx).elim ((h.at a).2 x) ((h.at b).2 x)
 exact⟨h1,h2,gn h1 h2⟩
theorem OsOk.res (h:OsOk s m) (os:List Int) (a b:Nat):(s.res os a b).Nodup∧∀ x∈s.res os a b,0≤x∧x≤99:=
 ⟨(h.join a b).1.filter _,fun x hx=>(h.join a b).2.1 x (List.mem_filter.1 hx).1⟩
theorem OsOk.step (h:OsOk s m) (os:List Int) (a b:Nat):OsOk (s.step os a b) (m+1):=by
 refine⟨by simp [Osd.step,h.gl],fun l hl=> ?_,by simp [Osd.step,h.n]⟩
 simp only[Osd.step,List.mem_append,List.mem_singleton]at hl
 rcases hl with hl | rfl
 ·exact h.lab l hl
 ·exact h.res os a b
theorem yI {i:Nat}:i∈s.nums↔i<s.all.length∧s.gone.getD i true=false:=by
 simp [Osd.nums,Osd.alive]
theorem EB (h:OsOk s m) {i:Nat} (hi:i<m):(s.step os a b).lab i=s.lab i:=by
 unfold Osd.lab Osd.step
 simp only
 rw[zq,List.getElem?_append_left (by rw[h.n];exact hi), ← zq]
theorem xn (h:OsOk s m):(s.step os a b).lab m=s.res os a b:=by
 unfold Osd.lab
 rw[zq,Osd.step,List.getElem?_append_right (by rw[h.n];exact Nat.le_refl _),h.n]
 simp
def Bs (s:Osd) (a b:Int):Bool:=decide (a∈natI s.nums∧b∈natI s.nums∧a<b)
def yE (os F:List Int) (s:Osd):Nat→Osd × Bool
 | 0=>(s,true)
 | k+1=>if (yE os F s k).2&&Bs (yE os F s k).1 (F.getD (k*2) 0) (F.getD (k*2+1) 0) then ((yE os F s k).1.step os (F.getD (k*2) 0).toNat (F.getD (k*2+1) 0).toNat,true) else ((yE os F s k).1,false)
def ordS (N:Net) (F:List Int) (k:Nat):Osd:=(yE N.os F (IB N.ts) k).1
end
end Go.Proofs.YtjfmckhbmdjnpaaGreat
