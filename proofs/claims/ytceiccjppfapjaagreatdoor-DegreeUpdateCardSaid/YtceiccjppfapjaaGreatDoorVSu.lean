/- Sums over lists: plain. -/
import Derived.Test.YtceiccjppfapjaaGreatDoorBMaa
set_option linter.unusedVariables false
set_option maxRecDepth 4000
namespace Go.Proofs.YtceiccjppfapjaaGreatDoor
namespace AI
def Ey:List Int→Int
 |[]=>0
 |x::l=>x+Ey l
theorem Kq:∀{a b:List Int},Ey (a++b)=Ey a+Ey b
 |[],b=>by simp[Ey]
 |x::a,b=>by simp only[List.cons_append,Ey,Kq (a:=a)];omega
theorem OC {α:Type} {f:α→Int} {l:List α} {i:Nat} (h:i<l.length):Ey ((l.take (i+1)).map f)=Ey ((l.take i).map f)+f l[i]:=by
 rw[List.take_succ_eq_append_getElem h,List.map_append,Kq]
 simp[Ey]
theorem Iy {α:Type} {f:α→Int} {c:Int}:∀{l:List α},(∀ x∈l,0≤f x∧f x≤c)→0≤Ey (l.map f)∧Ey (l.map f)≤l.length*c
 |[],_=>by simp[Ey]
 |x::l,h=>by
  have h1:=Iy (l:=l) fun y hy=>h y (List.mem_cons_of_mem _ hy)
  have h2:=h x (List.mem_cons_self ..)
  simp only[List.map_cons,Ey,List.length_cons]
  rw[Int.natCast_add,Int.add_mul]
  omega
end AI
end Go.Proofs.YtceiccjppfapjaaGreatDoor
