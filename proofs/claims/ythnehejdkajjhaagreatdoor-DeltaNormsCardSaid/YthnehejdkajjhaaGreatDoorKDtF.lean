/- Changes as data; the ids that changes name: plain. -/
import Derived.Test.YthnehejdkajjhaaGreatDoorKMae
set_option linter.unusedVariables false
set_option maxRecDepth 4000
namespace Go.Proofs.YthnehejdkajjhaaGreatDoor
namespace AI
theorem AhI:Tryz.prog.cellsOf 53=10:=by kernel_rfl
theorem RY {l:List AV} {n:Nat} (h:l.length=n+1):∃a r,l=a::r∧r.length=n:=by
 cases l with
 |nil=>simp at h
 |cons a r=>exact⟨a,r,rfl,by simpa using h⟩
theorem Abt {d:Nat} {a:AV} (h:like Tryz.prog d 53 a):∃c:GC,a=c.av∧c.ok:=by
 obtain⟨cs,rfl,h0⟩:=Ia Tryz.underlying53 h
 obtain⟨d',rfl,g1,g2⟩:=GZ Tryz.underlying53 h0
 rw[AhI]at g1
 obtain⟨a1,r1,rfl,q1⟩:=RY g1
 obtain⟨a2,r2,rfl,q2⟩:=RY q1
 obtain⟨a3,r3,rfl,q3⟩:=RY q2
 obtain⟨a4,r4,rfl,q4⟩:=RY q3
 obtain⟨b1,b2,b3,b4,b5,b6,rfl⟩:=Arv q4
 clear g1 q1 q2 q3 q4
 simp only[List.forall_mem_cons]at g2
 obtain⟨f1,f2,f3,f4,f5,f6,_⟩:=g2
 simp only[Abu,RZ,ZO,List.drop_zero,List.drop_succ_cons,List.take_succ_cons,List.take_zero]at f1 f2 f3 f4 f5 f6
 obtain⟨k,e1,h1⟩:=G5 f1
 obtain⟨i,e2,h2⟩:=G5 f2
 obtain⟨fr,e3,h3⟩:=G5 f3
 obtain⟨to,e4,h4⟩:=G5 f4
 obtain⟨s,e5,h5⟩:=Vq f5
 obtain⟨v,e6,h6⟩:=OV f6
 cases e1;cases e2;cases e3;cases e4;cases e5;cases e6
 exact⟨⟨k,i,fr,to,s,v⟩,rfl,h1,h2,h3,h4,h5,h6⟩
theorem Iz {a:AV} (h:Like Tryz.prog 26 a):∃nn L,a=.sl nn (vs GC.av L)∧Ln L∧∀c∈L,c.ok:=by
 obtain⟨d,h⟩:=h
 obtain⟨nn,l,e,_,h2,h3⟩:=Ahj (f:=GC.av) (Q:=GC.ok) Tryz.underlying26 (fun d x h=>Abt h) h
 exact⟨nn,l,e,Abv h2,h3⟩
def tN (c:GC):List Int:=(if 1≤c.op∧c.op≤5 then[c.id]else[])++(if c.op=6 then[c.fr,c.to]else[])
def tE (c:GC):List Int:=if¬(1≤c.op∧c.op≤5)∧6≤c.op∧c.op≤8 then[c.id]else[]
theorem U5 {α β:Type} {f:α→List β} {l:List α} {i:Nat} (h:i<l.length):(l.take (i+1)).flatMap f=(l.take i).flatMap f++f l[i]:=by
 rw[List.take_succ_eq_append_getElem h,List.flatMap_append];simp
end AI
end Go.Proofs.YthnehejdkajjhaaGreatDoor
