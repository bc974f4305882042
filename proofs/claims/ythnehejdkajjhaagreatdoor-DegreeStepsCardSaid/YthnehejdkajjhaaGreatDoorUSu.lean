/- Sums over lists: plain. -/
import Derived.Test.YthnehejdkajjhaaGreatDoorBMaa
set_option linter.unusedVariables false
set_option maxRecDepth 4000
namespace Go.Proofs.YthnehejdkajjhaaGreatDoor
namespace AI
def EU:List Int→Int
 |[]=>0
 |x::l=>x+EU l
theorem Ls:∀{a b:List Int},EU (a++b)=EU a+EU b
 |[],b=>by simp[EU]
 |x::a,b=>by simp only[List.cons_append,EU,Ls (a:=a)];omega
theorem Zg {α:Type}:∀{l:List α},EU (l.map fun _=>0)=0
 |[]=>rfl
 |x::l=>by simp only[List.map_cons,EU,Zg (l:=l)];omega
theorem AdA {α:Type} {f g:α→Int} {l:List α} (h:∀x∈l,f x=g x):EU (l.map f)=EU (l.map g):=by
 rw[List.map_congr_left h]
theorem PN {α:Type} {f:α→Int} {l:List α} {i:Nat} (h:i<l.length):EU ((l.take (i+1)).map f)=EU ((l.take i).map f)+f l[i]:=by
 rw[List.take_succ_eq_append_getElem h,List.map_append,Ls]
 simp[EU]
theorem KA {α:Type} {f:α→Int} {c:Int}:∀{l:List α},(∀ x∈l,0≤f x∧f x≤c)→0≤EU (l.map f)∧EU (l.map f)≤l.length*c
 |[],_=>by simp[EU]
 |x::l,h=>by
  have h1:=KA (l:=l) fun y hy=>h y (List.mem_cons_of_mem _ hy)
  have h2:=h x (List.mem_cons_self ..)
  simp only[List.map_cons,EU,List.length_cons]
  rw[Int.natCast_add,Int.add_mul]
  omega
theorem Af5 {α:Type} {f:α→Int} {a b:List α} (h:a.Perm b):EU (a.map f)=EU (b.map f):=by
 induction h with
 |nil=>rfl
 |cons x _ ih=>simp only[List.map_cons,EU,ih]
 |swap x y l=>simp only[List.map_cons,EU];omega
 |trans _ _ h1 h2=>exact h1.trans h2
end AI
end Go.Proofs.YthnehejdkajjhaaGreatDoor
