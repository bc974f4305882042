/- Changes as data; the ids that changes name: plain. -/
import Derived.Test.YtnbibfalljlmfaaGreatDoorMbh
set_option linter.unusedVariables false
set_option maxRecDepth 4000
namespace Go.Proofs.YtnbibfalljlmfaaGreatDoor
namespace AI
theorem c_change:Tryz.prog.cellsOf 50=10:=by kernel_rfl
theorem len_succ {l:List AV} {n:Nat} (h:l.length=n+1):∃a r,l=a::r∧r.length=n:=by
  cases l with
  |nil=>simp at h
  |cons a r=>exact⟨a,r,rfl,by simpa using h⟩
theorem like_change {d:Nat} {a:AV} (h:like Tryz.prog d 50 a):∃c:GC,a=c.av∧c.ok:=by
  obtain⟨cs,rfl,h0⟩:=AeQ Tryz.underlying50 h
  obtain⟨d',rfl,g1,g2⟩:=AdY Tryz.underlying50 h0
  rw[c_change]at g1
  obtain⟨a1,r1,rfl,q1⟩:=len_succ g1
  obtain⟨a2,r2,rfl,q2⟩:=len_succ q1
  obtain⟨a3,r3,rfl,q3⟩:=len_succ q2
  obtain⟨a4,r4,rfl,q4⟩:=len_succ q3
  obtain⟨b1,b2,b3,b4,b5,b6,rfl⟩:=len6 q4
  clear g1 q1 q2 q3 q4
  simp only[List.forall_mem_cons]at g2
  obtain⟨f1,f2,f3,f4,f5,f6,_⟩:=g2
  simp only[Az5,Apz,AuB,List.drop_zero,List.drop_succ_cons,List.take_succ_cons,List.take_zero]at f1 f2 f3 f4 f5 f6
  obtain⟨k,e1,h1⟩:=Ai2 f1
  obtain⟨i,e2,h2⟩:=Ai2 f2
  obtain⟨fr,e3,h3⟩:=Ai2 f3
  obtain⟨to,e4,h4⟩:=Ai2 f4
  obtain⟨s,e5,h5⟩:=Ai1 f5
  obtain⟨v,e6,h6⟩:=Aom f6
  cases e1;cases e2;cases e3;cases e4;cases e5;cases e6
  exact⟨⟨k,i,fr,to,s,v⟩,rfl,h1,h2,h3,h4,h5,h6⟩
theorem like_changes {a:AV} (h:Like Tryz.prog 30 a):∃nn L,a=.sl nn (vs GC.av L)∧Ln L∧∀c∈L,c.ok:=by
  obtain⟨d,h⟩:=h
  obtain⟨nn,l,e,_,h2,h3⟩:=AQK (f:=GC.av) (Q:=GC.ok) Tryz.underlying30 (fun d x h=>like_change h) h
  exact⟨nn,l,e,AQL h2,h3⟩
def tN (c:GC):List Int:=(if 1≤c.op∧c.op≤5 then[c.id]else[])++(if c.op=6 then[c.fr,c.to]else[])
def tE (c:GC):List Int:=if¬(1≤c.op∧c.op≤5)∧6≤c.op∧c.op≤8 then[c.id]else[]
theorem tN_len (c:GC):(tN c).length≤2:=by unfold tN;split<;>split<;>simp;omega
theorem tE_len (c:GC):(tE c).length≤1:=by unfold tE;split<;>simp
theorem fm_succ {α β:Type} {f:α→List β} {l:List α} {i:Nat} (h:i<l.length):(l.take (i+1)).flatMap f=(l.take i).flatMap f++f l[i]:=by
  rw[List.take_succ_eq_append_getElem h,List.flatMap_append];simp
end AI
end Go.Proofs.YtnbibfalljlmfaaGreatDoor
