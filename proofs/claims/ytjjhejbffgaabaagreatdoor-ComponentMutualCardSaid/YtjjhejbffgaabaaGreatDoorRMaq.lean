/- The reference's validity of values: it answers. The reference's validity of values, with lists in lists. The reference's bare values and strings. The reference's check of values that may be stored, of labels and properties. The reference's Check of a graph. The reference's Weak. The reference's Has. The reference's Reach: what is reached along edges. The reference's Strong: the least of those that reach each other. The worked example of the component laws. The law ComponentJoins, about the evaluator. The budget of a graph; names and types; entries. Small graphs, few strings. What the component laws share. The law ComponentFinds, about the evaluator. What a change leaves alone: plain. Changes as arguments. Changes as data; the ids that changes name: plain. What ComponentUpdates and ComponentMutual are asked. The law ComponentMutual, about the evaluator. -/
import Derived.Test.YtjjhejbffgaabaaGreatDoorRMag
import Derived.Test.YtjjhejbffgaabaaGreatDoorRMak
import Derived.Test.YtjjhejbffgaabaaGreatDoorRMaf
import Derived.Test.YtjjhejbffgaabaaGreatDoorRMam
import Derived.Test.YtjjhejbffgaabaaGreatDoorRMal
import Derived.Test.YtjjhejbffgaabaaGreatDoorRMap
import Derived.Test.YtjjhejbffgaabaaGreatDoorRMao
import Derived.Test.YtjjhejbffgaabaaGreatDoorRGrCode
import Derived.Test.YtjjhejbffgaabaaGreatDoorRVa
import Derived.Test.YtjjhejbffgaabaaGreatDoorRMai
set_option linter.unusedVariables false
set_option maxRecDepth 4000
namespace Go.Proofs.YtjjhejbffgaabaaGreatDoor
namespace AI
theorem bare {g:GV} {n d s l:Bool}:AQ (Ac tab) 186 [g.av,.bool n,.bool d,.bool s,.bool l] (fun v=>∃b,v=.bool b):=by
 cases n<;>cases d<;>cases s<;>cases l<;>(
 refine Ai rfl rfl ?_
 (conv=>whnf);repeat' (first|(refine kA ?_;conv=>whnf)|(refine Br.mk (fun hc=>?_) fun hc=>?_<;>first|exact hc.elim|conv=>whnf)  |(refine kB ?_))
 all_goals exact⟨_,rfl⟩)
theorem AkA {n:Int}:AQ (Ac tab) 187 [.int .i64 n] (fun v=>∃b,v=.bool b):=by
 refine Ai rfl rfl ?_
 (conv=>whnf);repeat' (first|(refine kA ?_;conv=>whnf)|(refine Br.mk (fun hc=>?_) fun hc=>?_<;>first|exact hc.elim|conv=>whnf)  |(refine kB ?_))
 all_goals exact⟨_,rfl⟩
theorem size {n:Int} (h1:-2^62≤n) (h2:n≤2^62):AQ (Ac tab) 203 [.int .i64 n] (fun v=>∃z,v=.int .i64 z∧0≤z∧(z=n∨z=-n)):=by
 refine Ai rfl rfl ?_
 (conv=>whnf);repeat' (first|(refine kA ?_;conv=>whnf)|(refine Br.mk (fun hc=>?_) fun hc=>?_<;>first|exact hc.elim|conv=>whnf)  |(refine kB ?_))
 all_goals exact⟨_,rfl,by omega,by omega⟩
theorem gcd {a b:Int} (h1:0≤a) (h2:0≤b):AQ (Ac tab) 202 [.int .i64 a,.int .i64 b] (fun v=>∃z,v=.int .i64 z):=by
 refine Ai rfl rfl ?_
 (conv=>whnf);repeat' (first|(refine kA ?_;conv=>whnf)|(refine Br.mk (fun hc=>?_) fun hc=>?_<;>first|exact hc.elim|conv=>whnf)  |(refine kB ?_))
 refine Ah (fun m env s=>∃(a b:Int),m=b.toNat∧0≤a∧0≤b∧env=[(0,.int .i64 a),(1,.int .i64 b)]∧s=⟨[],0⟩) ?_ _ _ _ ⟨a,b,rfl,h1,h2,rfl,rfl⟩
 clear h1 h2 a b
 rintro _ _ _ ⟨a,b,rfl,h1,h2,rfl,rfl⟩
 refine⟨rfl,?_⟩
 (conv=>whnf);repeat' (first|(refine kA ?_;conv=>whnf)|(refine Br.mk (fun hc=>?_) fun hc=>?_<;>first|exact hc.elim|conv=>whnf)  |(refine kB ?_))
 ·have e:a.tmod b=a % b:=Int.tmod_eq_emod_of_nonneg h1
  have:=Int.emod_lt_of_pos a (by omega:0<b)
  have:=Int.emod_nonneg a (by omega:b≠0)
  exact again.mk ⟨_,by rw[e];omega,_,_,rfl,h2,by rw[e];omega,rfl,rfl⟩
 ·exact⟨_,rfl⟩
theorem Agq {n d:Int}:AQ (Ac tab) 188 [.agg [.int .i64 n,.int .i64 d]] (fun v=>∃b,v=.bool b∧(b=true→1≤d∧d≤1000000000000000∧-1000000000000000≤n∧n≤1000000000000000)):=by
 refine Ai rfl rfl ?_
 (conv=>whnf);repeat' (first|(refine kA ?_;conv=>whnf)|(refine Br.mk (fun hc=>?_) fun hc=>?_<;>first|exact hc.elim|conv=>whnf)|(refine Aa (size (n:=n) (by omega) (by omega)) ?_;rintro _ ⟨z,rfl,hz1,hz2⟩;conv=>whnf)|(refine Aa (gcd (by omega) (by omega)) ?_;rintro _ ⟨z2,rfl⟩;conv=>whnf)|(refine kB ?_))
 all_goals first|exact⟨_,rfl,fun _=>by omega⟩|exact⟨_,rfl,fun h=>absurd h Bool.false_ne_true⟩
theorem Air {s:List UInt8} (hl:s.length<2^63):AQ (Ac tab) 189 [.str s] (fun v=>∃b,v=.bool b):=by
 refine Ai rfl rfl ?_
 (conv=>whnf);repeat' (first|(refine kA ?_;conv=>whnf)|(refine Br.mk (fun hc=>?_) fun hc=>?_<;>first|exact hc.elim|conv=>whnf)  |(refine kB ?_))
 refine Ah (fun m env s'=>∃i:Nat,m=s.length-i∧env=[(0,.str s),(3,.int .i64 i)]∧s'=⟨[],0⟩) ?_ _ _ _ ⟨0,rfl,rfl,rfl⟩
 rintro _ _ _ ⟨i,rfl,rfl,rfl⟩
 refine⟨rfl,?_⟩
 (conv=>whnf);repeat' (first|(refine kA ?_;conv=>whnf)|(refine Br.mk (fun hc=>?_) fun hc=>?_<;>first|exact hc.elim|conv=>whnf)  |(refine kB ?_))
 all_goals first|exact⟨_,rfl⟩|exact again.mk ⟨_,by omega,i+1,rfl,rfl,rfl⟩
theorem Z4 {g:GV} {n:Int} (h:g.k=5∨g.k=6):AQ (Ac tab) 162 [g.av,.int .i64 n] (fun v=>∃b,v=.bool b):=by
 refine Ai rfl rfl ?_
 (conv=>whnf);repeat' (first|(refine kA ?_;conv=>whnf)|(refine Br.mk (fun hc=>?_) fun hc=>?_<;>first|exact hc.elim|conv=>whnf)|(refine Aa (bare (g:=g)) ?_;rintro _ ⟨b,rfl⟩;conv=>whnf)|(refine kB ?_))
 all_goals exact⟨_,rfl⟩
theorem Agr {l:List AV} {nn:Bool} (hl:l.length<2^63) (h:∀x∈l,Like Tryz.prog 53 x):AQ (Ac tab) 190 [.sl nn l] (fun v=>∃b,v=.bool b):=by
 refine Ai rfl rfl ?_
 (conv=>whnf);repeat' (first|(refine kA ?_;conv=>whnf)|(refine Br.mk (fun hc=>?_) fun hc=>?_<;>first|exact hc.elim|conv=>whnf)  |(refine kB ?_))
 all_goals first|exact⟨_,rfl⟩|skip
 refine Ah (fun m env s'=>∃i:Nat,m=l.length-i∧env=[(0,.sl nn l),(3,.int .i64 i)]∧s'=⟨[],0⟩) ?_ _ _ _ ⟨0,rfl,rfl,rfl⟩
 rintro _ _ _ ⟨i,rfl,rfl,rfl⟩
 refine⟨rfl,?_⟩
 obtain⟨gx,hgx⟩:=Us h i
 (conv=>whnf);repeat' (first|(refine kA ?_;conv=>whnf)|(refine Br.mk (fun hc=>?_) fun hc=>?_<;>first|exact hc.elim|conv=>whnf)|(apply Ak;(· exact(hgx (by omega)).1);conv=>whnf)|(refine Aa (Z4 (g:=gx) (by omega)) ?_;rintro _ ⟨b,rfl⟩;conv=>whnf)|(refine kB ?_))
 all_goals first|exact⟨_,rfl⟩|exact again.mk ⟨_,by omega,i+1,rfl,rfl,rfl⟩
theorem Ai5 {l:List AV} {nn:Bool} (hl:l.length<2^63):AQ (Ac tab) 191 [.sl nn l,.int .i64 0] (fun v=>∃b,v=.bool b):=by
 refine Ai rfl rfl ?_
 (conv=>whnf);repeat' (first|(refine kA ?_;conv=>whnf)|(refine Br.mk (fun hc=>?_) fun hc=>?_<;>first|exact hc.elim|conv=>whnf)  |(refine kB ?_))
 all_goals exact⟨_,rfl⟩
theorem Ai6 {n:Nat} (ih:∀{g:GV},g.ok→AQ (Ac tab) 162 [g.av,.int .i64 n] (fun v=>∃b,v=.bool b)) (hn:n<2^60) {l:List AV} {nn:Bool} (hl:l.length<2^63) (h:∀x∈l,Like Tryz.prog 53 x):
 AQ (Ac tab) 191 [.sl nn l,.int .i64 (n+1:Nat)] (fun v=>∃b,v=.bool b):=by
 refine Ai rfl rfl ?_
 (conv=>whnf);repeat' (first|(refine kA ?_;conv=>whnf)|(refine Br.mk (fun hc=>?_) fun hc=>?_<;>first|exact hc.elim|conv=>whnf)  |(refine kB ?_))
 all_goals first|exact⟨_,rfl⟩|skip
 refine Ah (fun m env s'=>∃i:Nat,m=l.length-i∧env=[(0,.sl nn l),(1,.int .i64 (n+1:Nat)),(5,.int .i64 i)]∧s'=⟨[],0⟩) ?_ _ _ _ ⟨0,rfl,rfl,rfl⟩
 rintro _ _ _ ⟨i,rfl,rfl,rfl⟩
 refine⟨rfl,?_⟩
 obtain⟨gx,hgx⟩:=Us h i
 have ih':∀{g:GV},g.ok→AQ (Ac tab) 162 [g.av,.int .i64 (((n+1:Nat):Int)-1)] (fun v=>∃b,v=.bool b):=by
  rw[show ((n+1:Nat):Int)-1=(n:Int) by omega];exact ih
 (conv=>whnf);repeat' (first|(refine kA ?_;conv=>whnf)|(refine Br.mk (fun hc=>?_) fun hc=>?_<;>first|exact hc.elim|conv=>whnf)|(apply Ak;(· exact(hgx (by omega)).1);conv=>whnf)|(refine Aa (ih' (g:=gx) (hgx (by omega)).2.2) ?_;rintro _ ⟨b,rfl⟩;conv=>whnf)|(refine kB ?_))
 all_goals first|exact⟨_,rfl⟩|exact again.mk ⟨_,by omega,i+1,rfl,rfl,rfl⟩
theorem AcQ {n:Int} {g:GV} (hg:g.ok) (hlist:AQ (Ac tab) 191 [.sl g.nn g.l,.int .i64 n] (fun v=>∃b,v=.bool b)):
 AQ (Ac tab) 162 [g.av,.int .i64 n] (fun v=>∃b,v=.bool b):=by
 obtain⟨g1,g2,g3,g4,g5,g6,g7⟩:=hg
 unfold Ln at g4 g5
 refine Ai rfl rfl ?_
 (conv=>whnf);repeat' (first|(refine kA ?_;conv=>whnf)|(refine Br.mk (fun hc=>?_) fun hc=>?_<;>first|exact hc.elim|conv=>whnf)|(refine Aa (bare (g:=g)) ?_;rintro _ ⟨b,rfl⟩;conv=>whnf)|(refine Aa (AkA (n:=g.n)) ?_;rintro _ ⟨b,rfl⟩;conv=>whnf)|(refine Aa (Agq (n:=g.n) (d:=g.d)) ?_;rintro _ ⟨b,rfl,_⟩;conv=>whnf)|(refine Aa (Air g4) ?_;rintro _ ⟨b,rfl⟩;conv=>whnf)|(refine Aa (Agr g5 g7) ?_;rintro _ ⟨b,rfl⟩;conv=>whnf)|(refine Aa hlist ?_;rintro _ ⟨b,rfl⟩;conv=>whnf)|(refine kB ?_))
 all_goals exact⟨_,rfl⟩
theorem valid {n:Nat} (hn:n<2^60):∀{g:GV},g.ok→AQ (Ac tab) 162 [g.av,.int .i64 n] (fun v=>∃b,v=.bool b):=by
 induction n with
 |zero=>intro g hg;exact AcQ hg (Ai5 hg.2.2.2.2.1)
 |succ n ih=>intro g hg;exact AcQ hg (Ai6 (ih (by omega)) (by omega) hg.2.2.2.2.1 hg.2.2.2.2.2.2)
theorem Valid {g:GV} (hg:g.ok):AQ (Ac tab) 133 [g.av] (fun v=>∃b,v=.bool b):=by
 refine Ai rfl rfl ?_
 (conv=>whnf);repeat' (first|(refine kA ?_;conv=>whnf)|(refine Br.mk (fun hc=>?_) fun hc=>?_<;>first|exact hc.elim|conv=>whnf)|(refine Aa (valid (n:=8) (by omega) hg) ?_;rintro _ ⟨b,rfl⟩;conv=>whnf)|(refine kB ?_))
 all_goals exact⟨_,rfl⟩
def Afk (v:GV) (n d s l:Bool):Prop:=(n=true∨v.n=0)∧(d=true∨v.d=0)∧(s=true∨v.s=[])∧(l=true∨v.l.length=0)
instance (v:GV) (n d s l:Bool):Decidable (Afk v n d s l):=by unfold Afk;infer_instance
def I8 (P:Int→Prop) (ids:List Int) (a:Int) (k:Nat) (x:Int):Prop:=
 (x=a∧∀y∈ids.take k,¬P y)∨(x≠a∧∃j,j<k∧ids[j]?=some x∧P x∧∀y∈ids.take j,¬P y)
section
variable {P:Int→Prop} {ids:List Int} {a x:Int} {k:Nat}
theorem I8.start:I8 P ids a 0 a:=.inl ⟨rfl,by simp⟩
theorem I8.none (h:I8 P ids a k a) (hk:k<ids.length) (hp:¬P ids[k]):I8 P ids a (k+1) a:=by
 rcases h with⟨_,h⟩|⟨h,_⟩
 ·refine .inl ⟨rfl,fun y hy=>?_⟩
  rw[List.take_succ_eq_append_getElem hk,List.mem_append,List.mem_singleton]at hy
  rcases hy with hy|rfl
  ·exact h y hy
  ·exact hp
 ·exact absurd rfl h
theorem I8.on (h:I8 P ids a k x) (hx:x≠a):I8 P ids a (k+1) x:=by
 rcases h with⟨h,_⟩|⟨h,j,h1,h2⟩
 ·exact absurd h hx
 ·exact .inr ⟨h,j,by omega,h2⟩
theorem Aco (hi:ids.Pairwise (· <·)) {i j:Nat} (h1:i<ids.length) (h2:j<ids.length) (h:ids[i]<ids[j]):i<j:=by
 rcases Nat.lt_trichotomy i j with k|k|k
 ·exact k
 ·subst k;omega
 ·have:=List.pairwise_iff_getElem.1 hi j i h2 h1 k;omega
theorem I8.least {nx:Int→List Int} (h:I8 (fun y=>Jm nx a y∧Jm nx y a) ids a k x) (hi:ids.Pairwise (· <·)) (hk:ids[k]?=some a) (hin:∀u,Jm nx a u→u∈ids):Least nx a x:=by
 obtain⟨hkl,hka⟩:=List.getElem?_eq_some_iff.1 hk
 rcases h with⟨rfl,h⟩|⟨_,j,h1,h2,h3,h4⟩
 ·refine Pj hi hin ⟨.refl,.refl⟩ fun y hy hlt=>h y ?_
  obtain⟨i,h5,rfl⟩:=List.getElem_of_mem hy
  rw[← hka]at hlt
  exact List.mem_take_iff_getElem.2 ⟨i,by have:=Aco hi h5 hkl hlt;omega,rfl⟩
 ·obtain⟨hjl,hjx⟩:=List.getElem?_eq_some_iff.1 h2
  refine Pj hi hin h3 fun y hy hlt=>h4 y ?_
  obtain⟨i,h5,rfl⟩:=List.getElem_of_mem hy
  rw[← hjx]at hlt
  exact List.mem_take_iff_getElem.2 ⟨i,by have:=Aco hi h5 hjl hlt;omega,rfl⟩
end
section
open Go
set_option maxRecDepth 100000 in
theorem XT:Dv (run (Ac tab) 60) 8 []=some (.bool true):=by kernel_rfl
end
theorem Agm:Tryz.prog.cellsOf 38=2:=by kernel_rfl
theorem Aim {l:List AV} (h:l.length=2):∃a b,l=[a,b]:=by
 rcases l with _|⟨a,_|⟨b,_|⟨c,r⟩⟩⟩<;>simp at h
 exact⟨a,b,rfl⟩
theorem ZR {d:Nat} {a:AV} (h:like Tryz.prog d 38 a):∃p,a=pv p∧(I64 p.1∧I64 p.2):=by
 obtain⟨cs,rfl,h0⟩:=Dq Tryz.underlying38 h
 obtain⟨d',rfl,g1,g2⟩:=CW Tryz.underlying38 h0
 rw[Agm]at g1
 obtain⟨a,b,rfl⟩:=Aim g1
 clear g1
 simp only[List.forall_mem_cons]at g2
 obtain⟨f1,f2,_⟩:=g2
 simp only[Ti,List.drop_zero,List.drop_succ_cons,List.take_succ_cons,List.take_zero]at f1 f2
 obtain⟨s,e1,h1⟩:=Ef f1
 obtain⟨n,e2,h2⟩:=Ef f2
 cases e1;cases e2
 exact⟨(s,n),rfl,h1,h2⟩
theorem XR {a:AV} (h:Like Tryz.prog 30 a):∃nn l,a=.sl nn (vs pv l)∧Ln l∧(nn=false→l=[])∧∀p∈l,I64 p.1∧I64 p.2:=by
 obtain⟨d,h⟩:=h
 obtain⟨nn,l,e,h1,h2,h3⟩:=Vm (f:=pv) (Q:=fun p=>I64 p.1∧I64 p.2) Tryz.underlying30 (fun d x h=>ZR h) h
 exact⟨nn,l,e,QJ h2,h1,h3⟩
theorem Ad2 {d:Nat} {a:AV} (h:like Tryz.prog d 3 a):∃n,a=.int .i64 n∧I64 n:=by
 obtain⟨k,e1,h1⟩:=AaQ Tryz.underlying3 h
 exact⟨k,e1,AbL h1⟩
theorem TB {a:AV} (h:Like Tryz.prog 3 a):∃n,a=.int .i64 n∧I64 n:=by
 obtain⟨d,h⟩:=h
 exact Ad2 h
theorem Agn:AQ (Ac tab) 8 [] (· =.bool true):=⟨.bool true,⟨60,XT⟩,rfl⟩
def Xt:Nat→AV→Prop
 |0,_=>False
 |d+1,a=>∃g:GV,a=g.av∧g.ok∧g.s.length≤101000∧g.l.length≤2000∧∀x∈g.l,Xt d x
theorem wei:∀(d:Nat),d≤12→∀{g:GV} (hg:g.ok) {left:Int} (h1:-184467440737095530≤left) (h2:left≤2000),
 AQ (Ac tab) 78 [g.av,.int .i64 left,.int .i64 d] (fun v=>∃r,v=.int .i64 r∧-368934881474191048≤r∧r≤1999∧(0≤r→r+1≤left∧Xt d g.av)):=by
 intro d
 induction d with
 |zero=>
  intro _ g hg left h1 h2
  obtain⟨g1,g2,g3,g4,g5,g6,g7⟩:=hg
  unfold Ln at g4 g5
  refine Ai rfl rfl ?_
  (conv=>whnf);repeat' (first|(refine kA ?_;conv=>whnf)|(refine Br.mk (fun hc=>?_) fun hc=>?_<;>first|exact hc.elim|conv=>whnf)|(refine SX (by omega) ?_;conv=>whnf)|(refine kB ?_))
  all_goals exact⟨_,rfl,by omega,by omega,fun h=>absurd h (by omega)⟩
 |succ d ih=>
  intro hd g hg left h1 h2
  obtain⟨g1,g2,g3,g4,g5,g6,g7⟩:=hg
  unfold Ln at g4 g5
  refine Ai rfl rfl ?_
  (conv=>whnf);repeat' (first|(refine kA ?_;conv=>whnf)|(refine Br.mk (fun hc=>?_) fun hc=>?_<;>first|exact hc.elim|conv=>whnf)|(refine SX (by omega) ?_;conv=>whnf)|(refine kB ?_))
  have hw:∀{g:GV} (hg:g.ok) {left:Int} (h1:-184467440737095530≤left) (h2:left≤2000),
        AQ (Ac tab) 78 [g.av,.int .i64 left,.int .i64 (((d+1:Nat):Int)-1)] (fun v=>∃r,v=.int .i64 r∧-368934881474191048≤r∧r≤1999∧(0≤r→r+1≤left∧Xt d g.av)):=by
   rw[show ((d+1:Nat):Int)-1=(d:Int) by omega]
   exact ih (by omega)
  refine Ah (fun m env s=>∃(i:Nat) (cur:Int),m=g.l.length-i∧env=[(1,.int .i64 cur),(2,.int .i64 (d+1:Nat)),(3,.ref 0 0 0 0),(7,.int .i64 i)]∧s=⟨[.arr 0 5 true true [g.av]],1⟩∧
   -368934881474191048≤cur∧cur≤1999∧(0≤cur→cur+i+g.s.length / 50+1≤left∧∀x∈g.l.take i,Xt d x)) ?_ _ _ _ ⟨0,_,rfl,rfl,rfl,by omega,by omega,fun h=>⟨by omega,by simp⟩⟩
  rintro _ _ _ ⟨i,cur,rfl,rfl,rfl,b1,b2,hx⟩
  refine⟨rfl,?_⟩
  obtain⟨gx,hgx⟩:=Us g7 i
  (conv=>whnf);repeat' (first|(refine kA ?_;conv=>whnf)|(refine Br.mk (fun hc=>?_) fun hc=>?_<;>first|exact hc.elim|conv=>whnf)|(apply Ak;(· exact(hgx (by omega)).1);conv=>whnf)|(refine kB ?_))
  ·obtain⟨_,ge,gl⟩:=hgx (by omega)
   refine Aa (hw gl (by omega) (by omega)) ?_
   rintro _ ⟨r,rfl,r1,r2,r3⟩
   (conv=>whnf);repeat' (first|(refine kA ?_;conv=>whnf)|(refine Br.mk (fun hc=>?_) fun hc=>?_<;>first|exact hc.elim|conv=>whnf)  |(refine kB ?_))
   exact again.mk ⟨_,by omega,i+1,r,rfl,rfl,rfl,by omega,by omega,fun h=>⟨by have:=hx (by omega);have:=r3 h;omega,CX (by omega) (hx (by omega)).2 (ge▸(r3 h).2)⟩⟩
  ·exact⟨_,rfl,by omega,by omega,fun h=>absurd h (by omega)⟩
  ·refine⟨_,rfl,by omega,by omega,fun h=>?_⟩
   obtain⟨x1,x2⟩:=hx h
   rw[EJ hc]at x2
   exact⟨by omega,g,rfl,⟨g1,g2,g3,g4,g5,g6,g7⟩,by omega,by omega,x2⟩
theorem weigh {ps:List GP} {nn:Bool} (hl:Ln ps) (hp:∀p∈ps,p.ok) {left:Int} (h1:-9223372036854775808≤left) (h2:left≤2000):
 AQ (Ac tab) 44 [.sl nn (vs GP.av ps),.int .i64 left] (fun v=>∃r,v=.int .i64 r∧-9223372036854775808≤r∧r≤2000∧(0≤r→r+ps.length≤left∧∀p∈ps,p.key.length≤101000∧Xt 12 p.v.av)):=by
 unfold Ln at hl
 refine Ai rfl rfl ?_
 (conv=>whnf);repeat' (first|(refine kA ?_;conv=>whnf)|(refine Br.mk (fun hc=>?_) fun hc=>?_<;>first|exact hc.elim|conv=>whnf)  |(refine kB ?_))
 refine Ah (fun m env s=>∃(i:Nat) (cur:Int),m=ps.length-i∧env=[(0,.sl nn (vs GP.av ps)),(1,.int .i64 cur),(5,.int .i64 i)]∧s=⟨[],0⟩∧
  -9223372036854775808≤cur∧cur≤2000∧(0≤cur→cur+i≤left∧∀p∈ps.take i,p.key.length≤101000∧Xt 12 p.v.av)) ?_ _ _ _ ⟨0,_,rfl,rfl,rfl,by omega,by omega,fun h=>⟨by omega,by simp⟩⟩
 rintro _ _ _ ⟨i,cur,rfl,rfl,rfl,b1,b2,hx⟩
 refine⟨rfl,?_⟩
 have hat:∀(h:i<ps.length),(ps[i]).ok:=fun h=>hp _ (List.getElem_mem _)
 have hk:∀(h:i<ps.length),(ps[i]).key.length<2^63:=fun h=>(hat h).1
 (conv=>whnf);repeat' (first|(refine kA ?_;conv=>whnf)|(refine Br.mk (fun hc=>?_) fun hc=>?_<;>first|exact hc.elim|conv=>whnf)|(refine SX (hk (by omega)) ?_;conv=>whnf)|(have hwr:=hk (by omega);apply CG;(· exact wrap_i64 (by omega) (by omega));clear hwr;conv=>whnf)|(refine kB ?_))
 ·refine Aa (wei 12 (by omega) (hat (by omega)).2 (by have:=hk (by omega);omega) (by omega)) ?_
  rintro _ ⟨r,rfl,r1,r2,r3⟩
  (conv=>whnf);repeat' (first|(refine kA ?_;conv=>whnf)|(refine Br.mk (fun hc=>?_) fun hc=>?_<;>first|exact hc.elim|conv=>whnf)  |(refine kB ?_))
  exact again.mk ⟨_,by omega,i+1,r,rfl,rfl,rfl,by omega,by omega,fun h=>⟨by have:=hx (by omega);have:=r3 h;omega,CX (by omega) (hx (by omega)).2 ⟨by have:=r3 h;omega,(r3 h).2⟩⟩⟩
 ·exact⟨_,rfl,by omega,by omega,fun h=>absurd h (by omega)⟩
 ·refine⟨_,rfl,by omega,by omega,fun h=>?_⟩
  obtain⟨x1,x2⟩:=hx h
  rw[EJ hc]at x2
  exact⟨by omega,x2⟩
def SmP (ps:List GP):Prop:=ps.length≤2000∧∀p∈ps,p.key.length≤101000∧Xt 12 p.v.av
def SmN (n:GN):Prop:=n.labels.length≤2000∧(∀ s∈n.labels,s.length≤101000)∧SmP n.props
def SmE (e:GE):Prop:=e.ty.length≤101000∧SmP e.props
def SmG (g:GG) (n e:Int):Prop:=g.nodes.length≤n∧g.edges.length≤e∧(∀ n∈g.nodes,SmN n)∧∀e∈g.edges,SmE e
theorem small {g:GG} (hg:g.ok) {n e:Int}:AQ (Ac tab) 21 [g.av,.int .i64 n,.int .i64 e] (fun v=>∃b,v=.bool b∧(b=true→SmG g n e)):=by
 obtain⟨g1,g2,g3,g4,g5,g6,g7,g8⟩:=hg
 unfold Ln at g1 g4
 refine Ai rfl rfl ?_
 (conv=>whnf);repeat' (first|(refine kA ?_;conv=>whnf)|(refine Br.mk (fun hc=>?_) fun hc=>?_<;>first|exact hc.elim|conv=>whnf)  |(refine kB ?_))
 ·exact⟨_,rfl,fun h=>by cases h⟩
 ·exact⟨_,rfl,fun h=>by cases h⟩
 refine Ah (fun m env s=>∃(i c:Nat) (left:Int),m=g.nodes.length-i∧env=[(3,.ref 0 0 0 0),(7,.int .i64 left),(8,.int .i64 i)]∧s=⟨[.arr 0 4 true true [g.av]],c⟩∧-9223372036854775808≤left∧left≤2000∧(0≤left→∀n∈g.nodes.take i,SmN n)) ?_ _ _ _ ⟨0,1,2000,rfl,rfl,rfl,by omega,by omega,fun _=>by simp⟩
 rintro _ _ _ ⟨i,c,left,rfl,rfl,rfl,b1,b2,hx⟩
 refine⟨rfl,?_⟩
 have hat:∀h:i<g.nodes.length,(g.nodes[i]).ok:=fun h=>g3 _ (List.getElem_mem _)
 have hk:∀h:i<g.nodes.length,(g.nodes[i]).labels.length<2^63:=fun h=>(hat h).2.1
 (conv=>whnf);repeat' (first|(refine kA ?_;conv=>whnf)|(refine Br.mk (fun hc=>?_) fun hc=>?_<;>first|exact hc.elim|conv=>whnf)|(have hwr:=hk (by omega);apply CG;(· exact wrap_i64 (by omega) (by omega));clear hwr;conv=>whnf)|(refine kB ?_))
 rotate_left
 ·have hN:0≤left→∀n∈g.nodes,SmN n:=fun h=>absurd h (by omega)
  refine Ah (fun m env s=>∃(i c:Nat) (left:Int),m=g.edges.length-i∧env=[(3,.ref 0 0 0 0),(7,.int .i64 left),(11,.int .i64 i)]∧s=⟨[.arr 0 4 true true [g.av]],c⟩∧-9223372036854775808≤left∧left≤2000∧(0≤left→(∀ n∈g.nodes,SmN n)∧∀n∈g.edges.take i,SmE n)) ?_ _ _ _ ⟨0,_,left,rfl,rfl,rfl,by omega,by omega,fun h=>⟨hN h,by simp⟩⟩
  clear hN hx hat hk b1 b2 hc
  rintro _ _ _ ⟨i,c,left,rfl,rfl,rfl,b1,b2,hx⟩
  refine⟨rfl,?_⟩
  have hat:∀h:i<g.edges.length,(g.edges[i]).ok:=fun h=>g6 _ (List.getElem_mem _)
  have hk:∀h:i<g.edges.length,(g.edges[i]).ty.length<2^63:=fun h=>(hat h).2.2.2.1
  (conv=>whnf);repeat' (first|(refine kA ?_;conv=>whnf)|(refine Br.mk (fun hc=>?_) fun hc=>?_<;>first|exact hc.elim|conv=>whnf)|(refine SX (hk (by omega)) ?_;conv=>whnf)|(have hwr:=hk (by omega);apply CG;(· exact wrap_i64 (by omega) (by omega));clear hwr;conv=>whnf)|(refine kB ?_))
  ·refine Aa (weigh (hat (by omega)).2.2.2.2.1 (hat (by omega)).2.2.2.2.2.2 (by have:=hk (by omega);omega) (by omega)) ?_
   rintro _ ⟨r,rfl,r1,r2,r3⟩
   (conv=>whnf);repeat' (first|(refine kA ?_;conv=>whnf)|(refine Br.mk (fun hc=>?_) fun hc=>?_<;>first|exact hc.elim|conv=>whnf)  |(refine kB ?_))
   have hk1:=hk (by omega)
   exact again.mk ⟨_,by omega,i+1,_,r,rfl,rfl,rfl,by omega,by omega,fun h=>⟨(hx (by omega)).1,CX (by omega) (hx (by omega)).2 ⟨by have:=r3 h;omega,by have:=r3 h;omega,(r3 h).2⟩⟩⟩
  all_goals first
   |exact⟨_,rfl,fun h=>absurd h Bool.false_ne_true⟩
   |(refine ⟨_,rfl,fun h=>?_⟩
     rename_i hc1
     obtain⟨x1,x2⟩:=hx hc
     rw[EJ hc1]at x2
     exact⟨by omega,by omega,x1,x2⟩)
 ·have hN:0≤left→∀n∈g.nodes,SmN n:=by rw[EJ hc]at hx;exact hx
  refine Ah (fun m env s=>∃(i c:Nat) (left:Int),m=g.edges.length-i∧env=[(3,.ref 0 0 0 0),(7,.int .i64 left),(11,.int .i64 i)]∧s=⟨[.arr 0 4 true true [g.av]],c⟩∧-9223372036854775808≤left∧left≤2000∧(0≤left→(∀ n∈g.nodes,SmN n)∧∀n∈g.edges.take i,SmE n)) ?_ _ _ _ ⟨0,_,left,rfl,rfl,rfl,by omega,by omega,fun h=>⟨hN h,by simp⟩⟩
  clear hN hx hat hk b1 b2 hc
  rintro _ _ _ ⟨i,c,left,rfl,rfl,rfl,b1,b2,hx⟩
  refine⟨rfl,?_⟩
  have hat:∀h:i<g.edges.length,(g.edges[i]).ok:=fun h=>g6 _ (List.getElem_mem _)
  have hk:∀h:i<g.edges.length,(g.edges[i]).ty.length<2^63:=fun h=>(hat h).2.2.2.1
  (conv=>whnf);repeat' (first|(refine kA ?_;conv=>whnf)|(refine Br.mk (fun hc=>?_) fun hc=>?_<;>first|exact hc.elim|conv=>whnf)|(refine SX (hk (by omega)) ?_;conv=>whnf)|(have hwr:=hk (by omega);apply CG;(· exact wrap_i64 (by omega) (by omega));clear hwr;conv=>whnf)|(refine kB ?_))
  ·refine Aa (weigh (hat (by omega)).2.2.2.2.1 (hat (by omega)).2.2.2.2.2.2 (by have:=hk (by omega);omega) (by omega)) ?_
   rintro _ ⟨r,rfl,r1,r2,r3⟩
   (conv=>whnf);repeat' (first|(refine kA ?_;conv=>whnf)|(refine Br.mk (fun hc=>?_) fun hc=>?_<;>first|exact hc.elim|conv=>whnf)  |(refine kB ?_))
   have hk1:=hk (by omega)
   exact again.mk ⟨_,by omega,i+1,_,r,rfl,rfl,rfl,by omega,by omega,fun h=>⟨(hx (by omega)).1,CX (by omega) (hx (by omega)).2 ⟨by have:=r3 h;omega,by have:=r3 h;omega,(r3 h).2⟩⟩⟩
  all_goals first
   |exact⟨_,rfl,fun h=>absurd h Bool.false_ne_true⟩
   |(refine ⟨_,rfl,fun h=>?_⟩
     rename_i hc1
     obtain⟨x1,x2⟩:=hx hc
     rw[EJ hc1]at x2
     exact⟨by omega,by omega,x1,x2⟩)
 refine Aa (weigh (hat (by omega)).2.2.2.2.1 (hat (by omega)).2.2.2.2.2.2 (by have:=hk (by omega);omega) (by omega)) ?_
 rintro _ ⟨r,rfl,r1,r2,r3⟩
 (conv=>whnf);repeat' (first|(refine kA ?_;conv=>whnf)|(refine Br.mk (fun hc=>?_) fun hc=>?_<;>first|exact hc.elim|conv=>whnf)  |(refine kB ?_))
 refine Ah (fun m env s=>∃(j:Nat) (l2:Int),m=(g.nodes[i]).labels.length-j∧env=[(3,.ref 0 0 0 0),(7,.int .i64 l2),(8,.int .i64 i),(9,.ref 1 c 0 0),(10,.int .i64 j)]∧s=⟨[.arr 0 4 true true [g.av],.arr c 3 true true [(g.nodes[i]).av]],c+1⟩∧-9223372036854775808≤l2∧l2≤2000∧(0≤l2→0≤r∧∀s∈(g.nodes[i]).labels.take j,s.length≤101000)) ?_ _ _ _ ⟨0,r,rfl,rfl,rfl,by omega,by omega,fun h=>⟨h,by simp⟩⟩
 rintro _ _ _ ⟨j,l2,rfl,rfl,rfl,d1,d2,hy⟩
 refine⟨rfl,?_⟩
 have hlb:∀h:j<(g.nodes[i]).labels.length,((g.nodes[i]).labels[j]).length<2^63:=fun h=>(hat (by omega)).2.2.2.1 _ (List.getElem_mem _)
 have hk1:=hk (by omega)
 (conv=>whnf);repeat' (first|(refine kA ?_;conv=>whnf)|(refine Br.mk (fun hc=>?_) fun hc=>?_<;>first|exact hc.elim|conv=>whnf)|(refine SX (hlb (by omega)) ?_;conv=>whnf)|(have hwr:=hlb (by omega);apply CG;(· exact wrap_i64 (by omega) (by omega));clear hwr;conv=>whnf)|(refine kB ?_))
 ·have:=hlb (by omega)
  exact again.mk ⟨_,by omega,j+1,_,rfl,rfl,rfl,by omega,by omega,fun h=>⟨(hy (by omega)).1,CX (by omega) (hy (by omega)).2 (by omega)⟩⟩
 ·exact again.mk ⟨_,by omega,i+1,_,l2,rfl,rfl,rfl,by omega,by omega,fun h=>absurd h (by omega)⟩
 ·refine again.mk ⟨_,by omega,i+1,_,l2,rfl,rfl,rfl,by omega,by omega,fun h=>?_⟩
  obtain⟨y1,y2⟩:=hy h
  rw[EJ hc]at y2
  have:=r3 y1
  exact CX (by omega) (hx (by omega)) ⟨by omega,y2,by omega,this.2⟩
theorem Af5 {g:GG} (hg:g.ok):AQ (Ac tab) 7 [g.av] (fun v=>∃b,v=.bool b∧(b=true→g.nodes.length≤20∧g.edges.length≤40)):=by
 obtain⟨_,⟨b,rfl,hb⟩,p⟩:=(small hg (n:=20) (e:=40)).Xj
 refine Ai rfl rfl ?_
 (conv=>whnf);repeat' (first|(refine Aa p ?_;rintro _ rfl;conv=>whnf)|(refine kA ?_;conv=>whnf)|(refine Br.mk (fun hc=>?_) fun hc=>?_<;>first|exact hc.elim|conv=>whnf)|(refine kB ?_))
 all_goals first
  |(refine ⟨true,rfl,fun h=>?_⟩;have:=hb (by assumption);unfold SmG at this;omega)
  |exact⟨false,rfl,fun h=>by cases h⟩
theorem XH {a:AV} (h:Like Tryz.prog 26 a):∃nn l,a=.sl nn (vs .str l)∧l.length<2^63:=by
 obtain⟨d,h⟩:=h
 obtain⟨nn,l,e,_,h2,_⟩:=Vm (f:=AV.str) (Q:=Ln) Tryz.underlying26 (fun d x h=>by
  obtain⟨k,e1,h1⟩:=O5 Tryz.underlying9 h
  exact⟨k,e1,QJ h1⟩) h
 exact⟨nn,l,e,QJ h2⟩
theorem Fa.len {S:List Int} {es l:List (Int×Int)} (h:Fa S es l):l.length=S.length:=by
 have:=congrArg List.length h.nm
 simpa using this
structure GC where
 op:Int
 id:Int
 fr:Int
 to:Int
 name:List UInt8
 v:GV
def GC.av (c:GC):AV:=.agg [.int .i64 c.op,.int .i64 c.id,.int .i64 c.fr,.int .i64 c.to,.str c.name,.int .i64 c.v.k,.int .i64 c.v.n,.int .i64 c.v.d,.str c.v.s,.sl c.v.nn c.v.l]
def GC.ok (c:GC):Prop:=I64 c.op∧I64 c.id∧I64 c.fr∧I64 c.to∧Ln c.name∧c.v.ok
def Afe (ns:List Int) (N:List GN):List GN:=N.filter fun n=>decide (n.id∉ns)
def Aff (es:List Int) (E:List GE):List GE:=E.filter fun e=>decide (e.id∉es)
def OO (ns es:List Int) (g h:GG):Prop:=Afe ns h.nodes=Afe ns g.nodes∧Aff es h.edges=Aff es g.edges
theorem OO.refl (ns es:List Int) (g:GG):OO ns es g g:=⟨rfl,rfl⟩
theorem OO.trans {ns es:List Int} {g h k:GG} (h1:OO ns es g h) (h2:OO ns es h k):OO ns es g k:=⟨h2.1.trans h1.1,h2.2.trans h1.2⟩
theorem VL:Tryz.prog.cellsOf 55=10:=by kernel_rfl
theorem Fe {l:List AV} {n:Nat} (h:l.length=n+1):∃a r,l=a::r∧r.length=n:=by
 cases l with
 |nil=>simp at h
 |cons a r=>exact⟨a,r,rfl,by simpa using h⟩
theorem VN {d:Nat} {a:AV} (h:like Tryz.prog d 55 a):∃c:GC,a=c.av∧c.ok:=by
 obtain⟨cs,rfl,h0⟩:=Dq Tryz.underlying55 h
 obtain⟨d',rfl,g1,g2⟩:=CW Tryz.underlying55 h0
 rw[VL]at g1
 obtain⟨a1,r1,rfl,q1⟩:=Fe g1
 obtain⟨a2,r2,rfl,q2⟩:=Fe q1
 obtain⟨a3,r3,rfl,q3⟩:=Fe q2
 obtain⟨a4,r4,rfl,q4⟩:=Fe q3
 obtain⟨b1,b2,b3,b4,b5,b6,rfl⟩:=Af3 q4
 clear g1 q1 q2 q3 q4
 simp only[List.forall_mem_cons]at g2
 obtain⟨f1,f2,f3,f4,f5,f6,_⟩:=g2
 simp only[Ti,KL,Qc,List.drop_zero,List.drop_succ_cons,List.take_succ_cons,List.take_zero]at f1 f2 f3 f4 f5 f6
 obtain⟨k,e1,h1⟩:=Ef f1
 obtain⟨i,e2,h2⟩:=Ef f2
 obtain⟨fr,e3,h3⟩:=Ef f3
 obtain⟨to,e4,h4⟩:=Ef f4
 obtain⟨s,e5,h5⟩:=NM f5
 obtain⟨v,e6,h6⟩:=IG f6
 cases e1;cases e2;cases e3;cases e4;cases e5;cases e6
 exact⟨⟨k,i,fr,to,s,v⟩,rfl,h1,h2,h3,h4,h5,h6⟩
structure QA where
 nl:Bool
 l:List (Int×Int)
 g:GG
 tn:Bool
 types:List (List UInt8)
 c:GC
def QA.av (q:QA):AV:=.agg [.sl q.nl (vs pv q.l),.sl q.g.nn (vs GN.av q.g.nodes),.sl q.g.en (vs GE.av q.g.edges),.int .i64 q.g.Gf,.int .i64 q.g.Ih,.sl q.tn (vs .str q.types),.int .i64 q.c.op,.int .i64 q.c.id,.int .i64 q.c.fr,.int .i64 q.c.to,.str q.c.name,.int .i64 q.c.v.k,.int .i64 q.c.v.n,.int .i64 q.c.v.d,.str q.c.v.s,.sl q.c.v.nn q.c.v.l]
theorem AiI:Tryz.prog.cellsOf 57=16:=by kernel_rfl
theorem Aeg:Tryz.prog.cellsOf 30=1:=by kernel_rfl
theorem Wp {P:Program} {d:Nat} {t:TypeId} {fs:Array Field} {cs:List AV} (hu:P.underlying t=some (.struct fs)) (h:Cc P d t cs):like P d t (.agg cs):=⟨cs,h,by simp only[pack,hu]⟩
theorem TM {P:Program} {d:Nat} {t e:TypeId} {a:AV} (hu:P.underlying t=some (.slice e)) (h:Cc P d t [a]):like P d t a:=⟨[a],h,by simp[pack,hu]⟩
theorem ZY {a:AV} (h:Like Tryz.prog 57 a):∃q:QA,a=q.av∧Ln q.l∧(q.nl=false→q.l=[])∧q.g.ok∧ZW q.g∧q.types.length<2^63∧q.c.ok:=by
 obtain⟨d,h⟩:=h
 obtain⟨cs,rfl,h0⟩:=Dq Tryz.underlying57 h
 obtain⟨d',rfl,g1,g2⟩:=CW Tryz.underlying57 h0
 rw[AiI]at g1
 obtain⟨a1,r1,rfl,q1⟩:=Fe g1
 obtain⟨a2,r2,rfl,q2⟩:=Fe q1
 obtain⟨a3,r3,rfl,q3⟩:=Fe q2
 obtain⟨a4,r4,rfl,q4⟩:=Fe q3
 obtain⟨a5,r5,rfl,q5⟩:=Fe q4
 obtain⟨a6,r6,rfl,q6⟩:=Fe q5
 clear g1 q1 q2 q3 q4 q5
 simp only[List.forall_mem_cons]at g2
 obtain⟨f1,f2,f3,f4,_⟩:=g2
 simp only[Aeg,YW,TP,VL,List.drop_zero,List.drop_succ_cons,List.take_succ_cons,List.take_zero]at f1 f2 f3 f4
 obtain⟨nl,l,e1,h1,h2,_⟩:=XR ⟨d',TM Tryz.underlying30 f1⟩
 obtain⟨g,e2,h3,hF⟩:=Wq ⟨d',Wp Tryz.underlying25 f2⟩
 obtain⟨tn,types,e3,h4⟩:=XH ⟨d',TM Tryz.underlying26 f3⟩
 rw[List.take_of_length_le (by omega)]at f4
 obtain⟨c,e4,h5⟩:=VN (Wp Tryz.underlying55 f4)
 subst e1 e3
 unfold GG.av at e2
 unfold GC.av at e4
 simp only[AV.agg.injEq,List.cons.injEq,and_true]at e2 e4
 obtain⟨rfl,rfl,rfl,rfl⟩:=e2
 subst e4
 exact⟨⟨nl,l,g,tn,types,c⟩,rfl,h1,h2,h3,hF,h4,h5⟩
theorem ZU {P:Nat→Prop} (h:∃n,P n):∃n,P n∧∀j,j<n→¬P j:=by
 obtain⟨n,hn⟩:=h
 induction n using Nat.strongRecOn with
 |_ n ih=>
  by_cases hc:∃j,j<n∧P j
  ·obtain⟨j,h1,h2⟩:=hc
   exact ih j h1 h2
  ·exact⟨n,hn,fun j hj hp=>hc ⟨j,hj,hp⟩⟩
theorem Ad3 {nb:Int→List Int} {a b:Int}:(∃ k,IsD nb a b k)↔Jm nb a b:=by
 constructor
 ·rintro⟨k,h,h2⟩
  clear h2
  induction k generalizing b with
  |zero=>rw[(MQ nb).1 h];exact .refl
  |succ k ih=>
   obtain⟨y,h1,h2⟩:=(Ip nb).1 h
   exact .step (ih h1) h2
 ·intro h
  refine ZU ?_
  induction h with
  |refl=>exact⟨0,(MQ nb).2 rfl⟩
  |step _ hc ih=>
   obtain⟨k,hk⟩:=ih
   exact⟨k+1,(Ip nb).2 ⟨_,hk,hc⟩⟩
theorem Jm.congr {f g:Int→List Int} (h:∀v w,w∈f v→w∈g v) {a b:Int} (k:Jm f a b):Jm g a b:=by
 induction k with
 |refl=>exact .refl
 |step _ hc ih=>exact .step ih (h _ _ hc)
theorem AbS {types:List (List UInt8)} {g:GG} {v w:Int}:w∈N9 types 1 g.edges v↔w∈MH (JI types g) v:=by
 rw[YS,P8]
 unfold JI Jo
 rw[List.mem_map]
 constructor
 ·rintro⟨e,he,ht,h|h⟩
  ·exact⟨e,List.mem_filter.2 ⟨he,decide_eq_true ht⟩,by rw[h.2.1,h.2.2]⟩
  ·omega
 ·rintro⟨e,he,h⟩
  obtain⟨h1,h2⟩:=List.mem_filter.1 he
  cases h
  exact⟨e,h1,of_decide_eq_true h2,.inl ⟨.inl rfl,rfl,rfl⟩⟩
theorem Ad4 {types:List (List UInt8)} {dir:Int} {E:List GE} (hE:E.length≤100) {a:Int} {d:Nat} {seen:List (Int×Nat)} {level:List Int} (h:SB (N9 types dir E) a d seen level):∃d seen,SB (N9 types dir E) a d seen []:=by
 generalize hm:AbT seen level=m
 induction m using Nat.strongRecOn generalizing d seen level with
 |_ m ih=>
  by_cases hne:level=[]
  ·subst hne;exact⟨d,seen,h⟩
  ·exact ih _ (hm▸h.less hE hne) h.step rfl
theorem Agp {types:List (List UInt8)} {dir:Int} {E:List GE} (hE:E.length≤100) (a:Int):∃O,DsO (N9 types dir E) a O:=by
 obtain⟨d,seen,hb⟩:=Ad4 hE (SB.start _ a)
 have hle:∀x y:Int×Int,(!CU y x)=true↔x.1≤y.1:=fun x y=>by
  rw[Bool.not_eq_true',←Bool.not_eq_true,YE];omega
 refine⟨(seen.map pz).mergeSort (fun x y=>!CU y x),Pm hb (List.mergeSort_perm _ _) ?_⟩
 have:=List.pairwise_mergeSort (le:=fun x y:Int×Int=>!CU y x) (fun a b c h1 h2=>by rw[hle]at *;omega) (fun a b=>by
  rw[Bool.or_eq_true,hle,hle];omega) (seen.map pz)
 exact this.imp fun h=>by simpa using h
theorem Fa.find {S:List Int} {es l:List (Int×Int)} (h:Fa S es l) {a:Int} (ha:a∈S):∃x,LU l a=some x∧Least (MH es) a x:=by
 rw[← h.nm]at ha
 obtain⟨p,hp,rfl⟩:=List.mem_map.1 ha
 cases hf:l.find? fun q=>decide (q.1=p.1)with
 |none=>exact absurd ((List.find?_eq_none.1 hf) p hp) (by simp)
 |some q=>
  have h1:=List.find?_some hf
  have h2:=List.mem_of_find?_eq_some hf
  simp only[decide_eq_true_eq]at h1
  refine⟨q.2,by unfold LU;rw[hf];rfl,?_⟩
  rw[← h1]
  exact h.ls q h2
theorem Fa.AbU {S:List Int} {es l:List (Int×Int)} (h:Fa S es l) {a:Int} (ha:a∉S):LU l a=none:=
 Qn fun p hp e=>ha (by rw[← h.nm,←e];exact List.mem_map_of_mem hp)
theorem XW {nx:Int→List Int} {a b x y:Int} (h:Least nx a x) (k:Least nx b y):x=y↔Jm nx a b∧Jm nx b a:=by
 constructor
 ·rintro rfl
  exact⟨h.1.trans k.2.1,k.1.trans h.2.1⟩
 ·rintro⟨h1,h2⟩
  exact h.uniq ⟨h1.trans k.1,k.2.1.trans h2,fun u u1 u2=>k.2.2 u (h2.trans u1) (u2.trans h1)⟩
set_option maxHeartbeats 1000000 in
theorem V8 {g:GG} (hg:g.ok) (hf:ZW g) (hN:g.nodes.length<2^62) (hE:g.edges.length≤100) {types:List (List UInt8)} {tn:Bool} (hl:types.length<2^63) {a b:Int} (ha:a∈G9 g):
 AQ (Ac Vs) 20 [g.av,.sl tn (vs .str types),.int .i64 a,.int .i64 b] (fun v=>∃r,v=.bool r∧(r=true↔Jm (MH (JI types g)) a b)):=by
 have qok:(DQ.mk g a tn types 1).ok:=⟨hg,hf,hN,hE,hl⟩
 have dX:=Ahw qok
 unfold DQ.enc at dX
 dsimp only at dX
 obtain⟨O,hO⟩:=Agp (types:=types) (dir:=1) hE a
 have hout:(DQ.mk g a tn types 1).out=.sl true (vs A8 O):=by
  unfold DQ.out
  rw[if_pos (show ZX g a from ha),show dsO (DQ.mk g a tn types 1).nb (DQ.mk g a tn types 1).a=O from AbV hO]
 rw[hout]at dX
 have hmem:(∃ p∈O,p.1=b)↔Jm (MH (JI types g)) a b:=by
  have h1:(∃ p∈O,p.1=b)↔∃k,IsD (N9 types 1 g.edges) a b k:=by
   constructor
   ·rintro⟨p,hp,rfl⟩
    obtain⟨k,_,hk⟩:=(hO.mem p).1 hp
    exact⟨k,hk⟩
   ·rintro⟨k,hk⟩
    exact⟨(b,k),(hO.mem _).2 ⟨k,rfl,hk⟩,rfl⟩
  rw[h1,Ad3]
  exact⟨fun h=>h.congr fun v w=>AbS.1,fun h=>h.congr fun v w=>AbS.2⟩
 have hOl:O.length≤1+2*g.edges.length:=by
  have hn:(O.map (·.1)).Nodup:=List.pairwise_map.2 (hO.inc.imp fun h=>by omega)
  have:=List.Nodup.length_le_of_subset hn (l₂:=a::TF g.edges) fun x hx=>by
   obtain⟨p,hp,rfl⟩:=List.mem_map.1 hx
   obtain⟨k,_,hk⟩:=(hO.mem p).1 hp
   have hw:=hk.1
   cases k with
   |zero=>rw[MQ]at hw;simp[hw]
   |succ k=>
    obtain⟨y,_,hy⟩:=(Ip _).1 hw
    exact List.mem_cons_of_mem _ (Q8 hy)
  rw[List.length_map,List.length_cons,Oa]at this
  omega
 clear hout hO qok
 refine Ai rfl rfl ?_
 (conv=>whnf);repeat' (first|(refine Aa dX ?_;rintro _ rfl;conv=>whnf)|(refine kA ?_;conv=>whnf)|(refine Br.mk (fun hc=>?_) fun hc=>?_<;>first|exact hc.elim|conv=>whnf)|(refine kB ?_))
 all_goals first|(exfalso;omega)|skip
 refine Ah (fun m env s=>∃(i c:Nat),m=O.length-i∧i≤O.length∧(∀ p∈O.take i,p.1≠b)∧env=[(3,.int .i64 b),(9,.sl true (vs A8 O)),(10,.int .i64 i)]∧s=⟨[.arr 0 4 true true [g.av]],c⟩) ?_ _ _ _ ⟨0,_,rfl,by omega,by simp,rfl,rfl⟩
 rintro _ _ _ ⟨i,c,rfl,hi,hx,rfl,rfl⟩
 refine⟨rfl,?_⟩
 by_cases hlt:i<O.length
 ·by_cases he:(O[i]).1=b
  ·(conv=>whnf);repeat' (first  |(refine kA ?_;conv=>whnf)|(refine Br.mk (fun hc=>?_) fun hc=>?_<;>first|exact hc.elim|conv=>whnf)|(refine kB ?_))
   all_goals first
        |(exfalso;omega)
        |exact⟨true,rfl,fun _=>hmem.1 ⟨_,List.getElem_mem hlt,he⟩,fun _=>rfl⟩
        |exact absurd he ‹_›
  ·(conv=>whnf);repeat' (first  |(refine kA ?_;conv=>whnf)|(refine Br.mk (fun hc=>?_) fun hc=>?_<;>first|exact hc.elim|conv=>whnf)|(refine kB ?_))
   all_goals first
        |(exfalso;omega)
        |exact again.mk ⟨_,by omega,i+1,_,rfl,by omega,Um hx hlt he,rfl,rfl⟩
        |exact absurd ‹_› he
 ·rw[List.take_of_length_le (by omega)]at hx
  (conv=>whnf);repeat' (first  |(refine kA ?_;conv=>whnf)|(refine Br.mk (fun hc=>?_) fun hc=>?_<;>first|exact hc.elim|conv=>whnf)|(refine kB ?_))
  all_goals first
   |(exfalso;omega)
   |exact⟨false,rfl,(fun h=>by cases h),fun h=>by obtain⟨p,hp,e⟩:=hmem.2 h;exact absurd e (hx p hp)⟩
set_option maxHeartbeats 4000000 in
theorem Xq:∀xs,likes Tryz.prog [57,3,3] xs→AY (Ac Vs) 6 xs ⟨[],0⟩ fun out _=>out=.ok (.bool true):=by
 intro xs h
 match xs,h with
 |[x,y,z],h=>
  obtain⟨h1,h2,h3,_⟩:=h
  obtain⟨⟨nl,l0,g,tn,types,cg⟩,rfl,_,_,hg,hf,hl,_⟩:=ZY h1
  obtain⟨a,rfl,_⟩:=TB h2
  obtain⟨b,rfl,_⟩:=TB h3
  dsimp only at hg hf hl
  clear h1 h2 h3
  obtain⟨_,⟨bs,rfl,hs⟩,p0⟩:=(Af5 hg).Xj
  replace p0:=p0.up upX
  have pl:=Agn.up upX
  refine AL rfl rfl ?_
  cases bs with
  |false=>
   (conv=>whnf);repeat' (first|((first|refine Aa pl ?_|refine Aa p0 ?_);rintro _ rfl;conv=>whnf)|(refine kA ?_;conv=>whnf)|(refine Br.mk (fun hc=>?_) fun hc=>?_<;>first|exact hc.elim|conv=>whnf)|(refine kB ?_))
   all_goals first|rfl
  |true=>
  obtain⟨hN,hE⟩:=hs rfl
  clear hs
  have pc:=(Abc hg).up upX
  by_cases hck:Dx g=0
  case neg=>
   (conv=>whnf);repeat' (first|((first|refine Aa pl ?_|refine Aa p0 ?_|refine Aa pc ?_);rintro _ rfl;conv=>whnf)|(refine kA ?_;conv=>whnf)|(refine Br.mk (fun hc=>?_) fun hc=>?_<;>first|exact hc.elim|conv=>whnf)|(refine kB ?_))
   all_goals first|rfl|exact absurd ‹_› hck
  rw[hck]at pc
  obtain⟨_,⟨b3,l,rfl,_,s2⟩,p3⟩:=(AdA (types:=types) (tn:=tn) hl hg (by omega) (by omega)).Xj
  have hS:=s2 hck
  have hll:=hS.len
  rw[KE]at hll
  replace p3:=p3.up upX
  have pfa:=(AeN (l:=l) (a:=a) (nn:=b3) (by omega)).up upX
  have pfb:=(AeN (l:=l) (a:=b) (nn:=b3) (by omega)).up upX
  obtain⟨_,⟨na,rfl⟩,pna⟩:=(AbW hg hf (by omega) (id:=a)).Xj
  obtain⟨_,⟨nb,rfl⟩,pnb⟩:=(AbW hg hf (by omega) (id:=b)).Xj
  replace pna:=pna.up upX
  replace pnb:=pnb.up upX
  clear s2
  by_cases ha:a∈G9 g
  case neg=>
   rw[hS.AbU ha]at pfa
   rw[decide_eq_false (show a∉g.nodes.map GN.id from ha)]at pna
   by_cases hb:b∈G9 g
   ·obtain⟨y,hy,_⟩:=hS.find hb
    rw[hy]at pfb
    rw[decide_eq_true (show b∈g.nodes.map GN.id from hb)]at pnb
    (conv=>whnf);repeat' (first|((first|refine Aa pl ?_|refine Aa p0 ?_|refine Aa pc ?_|refine Aa p3 ?_|refine Aa pfa ?_|refine Aa pfb ?_|refine Aa pna ?_|refine Aa pnb ?_);rintro _ rfl;conv=>whnf)|(refine kA ?_;conv=>whnf)|(refine Br.mk (fun hc=>?_) fun hc=>?_<;>first|exact hc.elim|conv=>whnf)|(refine kB ?_))
    all_goals first|rfl|(exfalso;omega)
   ·rw[hS.AbU hb]at pfb
    rw[decide_eq_false (show b∉g.nodes.map GN.id from hb)]at pnb
    (conv=>whnf);repeat' (first|((first|refine Aa pl ?_|refine Aa p0 ?_|refine Aa pc ?_|refine Aa p3 ?_|refine Aa pfa ?_|refine Aa pfb ?_|refine Aa pna ?_|refine Aa pnb ?_);rintro _ rfl;conv=>whnf)|(refine kA ?_;conv=>whnf)|(refine Br.mk (fun hc=>?_) fun hc=>?_<;>first|exact hc.elim|conv=>whnf)|(refine kB ?_))
    all_goals first|rfl|(exfalso;omega)
  obtain⟨x,hx,hxl⟩:=hS.find ha
  rw[hx]at pfa
  rw[decide_eq_true (show a∈g.nodes.map GN.id from ha)]at pna
  by_cases hb:b∈G9 g
  case neg=>
   rw[hS.AbU hb]at pfb
   rw[decide_eq_false (show b∉g.nodes.map GN.id from hb)]at pnb
   (conv=>whnf);repeat' (first|((first|refine Aa pl ?_|refine Aa p0 ?_|refine Aa pc ?_|refine Aa p3 ?_|refine Aa pfa ?_|refine Aa pfb ?_|refine Aa pna ?_|refine Aa pnb ?_);rintro _ rfl;conv=>whnf)|(refine kA ?_;conv=>whnf)|(refine Br.mk (fun hc=>?_) fun hc=>?_<;>first|exact hc.elim|conv=>whnf)|(refine kB ?_))
   all_goals first|rfl|(exfalso;omega)
  obtain⟨y,hy,hyl⟩:=hS.find hb
  rw[hy]at pfb
  rw[decide_eq_true (show b∈g.nodes.map GN.id from hb)]at pnb
  obtain⟨_,⟨r1,rfl,hr1⟩,pr1⟩:=(V8 hg hf (by omega) (by omega) (types:=types) (tn:=tn) hl (b:=b) ha).Xj
  obtain⟨_,⟨r2,rfl,hr2⟩,pr2⟩:=(V8 hg hf (by omega) (by omega) (types:=types) (tn:=tn) hl (b:=a) hb).Xj
  have hxy:=XW hxl hyl
  rw[← hr1,←hr2]at hxy
  clear hS hr1 hr2 hx hy hxl hyl hf hg
  cases r1<;>cases r2<;>by_cases hz:x=y
  all_goals first
   |(exfalso;simp[hz]at hxy;done)
   |skip
  all_goals (conv=>whnf);repeat' (first|((first|refine Aa pl ?_|refine Aa p0 ?_|refine Aa pc ?_|refine Aa p3 ?_|refine Aa pfa ?_|refine Aa pfb ?_|refine Aa pna ?_|refine Aa pnb ?_|refine Aa pr1 ?_|refine Aa pr2 ?_);rintro _ rfl;conv=>whnf)|(refine kA ?_;conv=>whnf)|(refine Br.mk (fun hc=>?_) fun hc=>?_<;>first|exact hc.elim|conv=>whnf)|(refine kB ?_))
  all_goals first
   |rfl
   |exact absurd ‹_› hz
   |exact absurd hz ‹_›
   |(exfalso;omega)
end AI
end Go.Proofs.YtjjhejbffgaabaaGreatDoor
