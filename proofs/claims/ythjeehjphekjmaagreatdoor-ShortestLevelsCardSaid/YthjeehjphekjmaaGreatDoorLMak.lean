/- What is wrong with labels and properties. Looking for a node among increasing ids. graph.Check: the first error of a graph. -/
import Derived.Test.YthjeehjphekjmaaGreatDoorLMaj
import Derived.Test.YthjeehjphekjmaaGreatDoorLMab
set_option linter.unusedVariables false
set_option maxRecDepth 4000
namespace Go.Proofs.YthjeehjphekjmaaGreatDoor
namespace AI
def keysOf (P:List GP):List (List UInt8):=P.map GP.key
@[simp] theorem VL (P:List GP):(keysOf P).length=P.length:=by simp[keysOf]
def allPlain (P:List GP):Prop:=∀p∈P,Gs p.v
noncomputable instance (P:List GP):Decidable (allPlain P):=Classical.propDecidable _
noncomputable def Ei (L:List (List UInt8)) (P:List GP):Int:=
 if 8<L.length∨16<P.length then 4 else if¬(allNames L∧allNames (keysOf P))then 6 else if¬(rises L∧rises (keysOf P))then 26 else if¬allPlain P then 8 else 0
attribute [irreducible] Ei
def incr (l:List Int):Prop:=∀j (h:j+1<l.length),l[j]<l[j+1]
noncomputable instance (l:List Int):Decidable (incr l):=Classical.propDecidable _
def Jf (N:List GN):List Int:=N.map GN.id
def Aev (E:List GE):List Int:=E.map GE.id
@[simp] theorem Aew (N:List GN):(Jf N).length=N.length:=by simp[Jf]
@[simp] theorem Aex (N:List GE):(Aev N).length=N.length:=by simp[Aev]
def Ho (f:Nat→Int):Nat→Int
 |0=>0
 |n+1=>if Ho f n=0 then f n else Ho f n
noncomputable def Gh (N:List GN) (nx:Int) (i:Nat):Int:=
 match N[i]? with
 |none=>0
 |some n=>if 0<i∧(∃ m,N[i-1]?=some m∧n.id≤m.id)then 26 else if n.id<1∨nx≤n.id then 1 else Ei n.labels n.props
noncomputable def FB (N:List GN) (E:List GE) (nx:Int) (i:Nat):Int:=
 match E[i]? with
 |none=>0
 |some e=>if 0<i∧(∃ m,E[i-1]?=some m∧e.id≤m.id)then 26 else if e.id<1∨nx≤e.id then 1 else if¬(e.fr∈Jf N∧e.to∈Jf N)then 10 else if¬isName e.ty then 6 else Ei [] e.props
def HY (g:GG):Prop:=g.nodes.length≤2000∧g.edges.length≤4000
def Jt (g:GG):Prop:=1≤g.GU∧g.GU≤1000001∧1≤g.Jq∧g.Jq≤1000001
instance (g:GG):Decidable (HY g):=by unfold HY;infer_instance
instance (g:GG):Decidable (Jt g):=by unfold Jt;infer_instance
noncomputable def Ej (g:GG):Int:=
 if¬HY g then 4 else if¬Jt g then 1 else
  if Ho (Gh g.nodes g.GU) g.nodes.length=0 then Ho (FB g.nodes g.edges g.Jq) g.edges.length else Ho (Gh g.nodes g.GU) g.nodes.length
attribute [irreducible] Gh FB Ej Ho
end AI
end Go.Proofs.YthjeehjphekjmaaGreatDoor
