/- The reference's validity of values: it answers. The reference's validity of values, with lists in lists. The reference's bare values and strings. The reference's check of values that may be stored, of labels and properties. The reference's Check of a graph. The reference's Weak. The reference's Has. The reference's Reach: what is reached along edges. The reference's Strong: the least of those that reach each other. The worked example of the component laws. The law ComponentJoins, about the evaluator. The budget of a graph; names and types; entries. Small graphs, few strings. What the component laws share. The law ComponentFinds, about the evaluator. The law ComponentFine, about the evaluator. -/
import Derived.Test.YtjjhejbffgaabaaGreatDoorQMae
import Derived.Test.YtjjhejbffgaabaaGreatDoorQMaf
import Derived.Test.YtjjhejbffgaabaaGreatDoorQMaa
import Derived.Test.YtjjhejbffgaabaaGreatDoorQMag
import Derived.Test.YtjjhejbffgaabaaGreatDoorQMai
import Derived.Test.YtjjhejbffgaabaaGreatDoorQMah
import Derived.Test.YtjjhejbffgaabaaGreatDoorQGrCode
import Derived.Test.YtjjhejbffgaabaaGreatDoorQVa
set_option linter.unusedVariables false
set_option maxRecDepth 4000
namespace Go.Proofs.YtjjhejbffgaabaaGreatDoor
namespace AI
theorem bare {g:GV} {n d s l:Bool}:AX (Ag tab) 186 [g.av,.bool n,.bool d,.bool s,.bool l] (fun v=>∃b,v=.bool b):=by
 cases n<;>cases d<;>cases s<;>cases l<;>(
 refine Ai rfl rfl ?_
 (conv=>whnf);repeat' (first|(refine kA ?_;conv=>whnf)|(refine Br.mk (fun hc=>?_) fun hc=>?_<;>first|exact hc.elim|conv=>whnf)  |(refine kB ?_))
 all_goals exact⟨_,rfl⟩)
theorem AeS {n:Int}:AX (Ag tab) 187 [.int .i64 n] (fun v=>∃b,v=.bool b):=by
 refine Ai rfl rfl ?_
 (conv=>whnf);repeat' (first|(refine kA ?_;conv=>whnf)|(refine Br.mk (fun hc=>?_) fun hc=>?_<;>first|exact hc.elim|conv=>whnf)  |(refine kB ?_))
 all_goals exact⟨_,rfl⟩
theorem size {n:Int} (h1:-2^62≤n) (h2:n≤2^62):AX (Ag tab) 203 [.int .i64 n] (fun v=>∃z,v=.int .i64 z∧0≤z∧(z=n∨z=-n)):=by
 refine Ai rfl rfl ?_
 (conv=>whnf);repeat' (first|(refine kA ?_;conv=>whnf)|(refine Br.mk (fun hc=>?_) fun hc=>?_<;>first|exact hc.elim|conv=>whnf)  |(refine kB ?_))
 all_goals exact⟨_,rfl,by omega,by omega⟩
theorem gcd {a b:Int} (h1:0≤a) (h2:0≤b):AX (Ag tab) 202 [.int .i64 a,.int .i64 b] (fun v=>∃z,v=.int .i64 z):=by
 refine Ai rfl rfl ?_
 (conv=>whnf);repeat' (first|(refine kA ?_;conv=>whnf)|(refine Br.mk (fun hc=>?_) fun hc=>?_<;>first|exact hc.elim|conv=>whnf)  |(refine kB ?_))
 refine Au (fun m env s=>∃(a b:Int),m=b.toNat∧0≤a∧0≤b∧env=[(0,.int .i64 a),(1,.int .i64 b)]∧s=⟨[],0⟩) ?_ _ _ _ ⟨a,b,rfl,h1,h2,rfl,rfl⟩
 clear h1 h2 a b
 rintro _ _ _ ⟨a,b,rfl,h1,h2,rfl,rfl⟩
 refine⟨rfl,?_⟩
 (conv=>whnf);repeat' (first|(refine kA ?_;conv=>whnf)|(refine Br.mk (fun hc=>?_) fun hc=>?_<;>first|exact hc.elim|conv=>whnf)  |(refine kB ?_))
 ·have e:a.tmod b=a % b:=Int.tmod_eq_emod_of_nonneg h1
  have:=Int.emod_lt_of_pos a (by omega:0<b)
  have:=Int.emod_nonneg a (by omega:b≠0)
  exact again.mk ⟨_,by rw[e];omega,_,_,rfl,h2,by rw[e];omega,rfl,rfl⟩
 ·exact⟨_,rfl⟩
theorem Acf {n d:Int}:AX (Ag tab) 188 [.agg [.int .i64 n,.int .i64 d]] (fun v=>∃b,v=.bool b∧(b=true→1≤d∧d≤1000000000000000∧-1000000000000000≤n∧n≤1000000000000000)):=by
 refine Ai rfl rfl ?_
 (conv=>whnf);repeat' (first|(refine kA ?_;conv=>whnf)|(refine Br.mk (fun hc=>?_) fun hc=>?_<;>first|exact hc.elim|conv=>whnf)|(refine Ae (size (n:=n) (by omega) (by omega)) ?_;rintro _ ⟨z,rfl,hz1,hz2⟩;conv=>whnf)|(refine Ae (gcd (by omega) (by omega)) ?_;rintro _ ⟨z2,rfl⟩;conv=>whnf)|(refine kB ?_))
 all_goals first|exact⟨_,rfl,fun _=>by omega⟩|exact⟨_,rfl,fun h=>absurd h Bool.false_ne_true⟩
theorem Adw {s:List UInt8} (hl:s.length<2^63):AX (Ag tab) 189 [.str s] (fun v=>∃b,v=.bool b):=by
 refine Ai rfl rfl ?_
 (conv=>whnf);repeat' (first|(refine kA ?_;conv=>whnf)|(refine Br.mk (fun hc=>?_) fun hc=>?_<;>first|exact hc.elim|conv=>whnf)  |(refine kB ?_))
 refine Au (fun m env s'=>∃i:Nat,m=s.length-i∧env=[(0,.str s),(3,.int .i64 i)]∧s'=⟨[],0⟩) ?_ _ _ _ ⟨0,rfl,rfl,rfl⟩
 rintro _ _ _ ⟨i,rfl,rfl,rfl⟩
 refine⟨rfl,?_⟩
 (conv=>whnf);repeat' (first|(refine kA ?_;conv=>whnf)|(refine Br.mk (fun hc=>?_) fun hc=>?_<;>first|exact hc.elim|conv=>whnf)  |(refine kB ?_))
 all_goals first|exact⟨_,rfl⟩|exact again.mk ⟨_,by omega,i+1,rfl,rfl,rfl⟩
theorem XB {g:GV} {n:Int} (h:g.k=5∨g.k=6):AX (Ag tab) 162 [g.av,.int .i64 n] (fun v=>∃b,v=.bool b):=by
 refine Ai rfl rfl ?_
 (conv=>whnf);repeat' (first|(refine kA ?_;conv=>whnf)|(refine Br.mk (fun hc=>?_) fun hc=>?_<;>first|exact hc.elim|conv=>whnf)|(refine Ae (bare (g:=g)) ?_;rintro _ ⟨b,rfl⟩;conv=>whnf)|(refine kB ?_))
 all_goals exact⟨_,rfl⟩
theorem Acg {l:List AV} {nn:Bool} (hl:l.length<2^63) (h:∀x∈l,Like Tryz.prog 53 x):AX (Ag tab) 190 [.sl nn l] (fun v=>∃b,v=.bool b):=by
 refine Ai rfl rfl ?_
 (conv=>whnf);repeat' (first|(refine kA ?_;conv=>whnf)|(refine Br.mk (fun hc=>?_) fun hc=>?_<;>first|exact hc.elim|conv=>whnf)  |(refine kB ?_))
 all_goals first|exact⟨_,rfl⟩|skip
 refine Au (fun m env s'=>∃i:Nat,m=l.length-i∧env=[(0,.sl nn l),(3,.int .i64 i)]∧s'=⟨[],0⟩) ?_ _ _ _ ⟨0,rfl,rfl,rfl⟩
 rintro _ _ _ ⟨i,rfl,rfl,rfl⟩
 refine⟨rfl,?_⟩
 obtain⟨gx,hgx⟩:=RS h i
 (conv=>whnf);repeat' (first|(refine kA ?_;conv=>whnf)|(refine Br.mk (fun hc=>?_) fun hc=>?_<;>first|exact hc.elim|conv=>whnf)|(apply Az;(· exact(hgx (by omega)).1);conv=>whnf)|(refine Ae (XB (g:=gx) (by omega)) ?_;rintro _ ⟨b,rfl⟩;conv=>whnf)|(refine kB ?_))
 all_goals first|exact⟨_,rfl⟩|exact again.mk ⟨_,by omega,i+1,rfl,rfl,rfl⟩
theorem Adu {l:List AV} {nn:Bool} (hl:l.length<2^63):AX (Ag tab) 191 [.sl nn l,.int .i64 0] (fun v=>∃b,v=.bool b):=by
 refine Ai rfl rfl ?_
 (conv=>whnf);repeat' (first|(refine kA ?_;conv=>whnf)|(refine Br.mk (fun hc=>?_) fun hc=>?_<;>first|exact hc.elim|conv=>whnf)  |(refine kB ?_))
 all_goals exact⟨_,rfl⟩
theorem Adv {n:Nat} (ih:∀{g:GV},g.ok→AX (Ag tab) 162 [g.av,.int .i64 n] (fun v=>∃b,v=.bool b)) (hn:n<2^60) {l:List AV} {nn:Bool} (hl:l.length<2^63) (h:∀x∈l,Like Tryz.prog 53 x):
 AX (Ag tab) 191 [.sl nn l,.int .i64 (n+1:Nat)] (fun v=>∃b,v=.bool b):=by
 refine Ai rfl rfl ?_
 (conv=>whnf);repeat' (first|(refine kA ?_;conv=>whnf)|(refine Br.mk (fun hc=>?_) fun hc=>?_<;>first|exact hc.elim|conv=>whnf)  |(refine kB ?_))
 all_goals first|exact⟨_,rfl⟩|skip
 refine Au (fun m env s'=>∃i:Nat,m=l.length-i∧env=[(0,.sl nn l),(1,.int .i64 (n+1:Nat)),(5,.int .i64 i)]∧s'=⟨[],0⟩) ?_ _ _ _ ⟨0,rfl,rfl,rfl⟩
 rintro _ _ _ ⟨i,rfl,rfl,rfl⟩
 refine⟨rfl,?_⟩
 obtain⟨gx,hgx⟩:=RS h i
 have ih':∀{g:GV},g.ok→AX (Ag tab) 162 [g.av,.int .i64 (((n+1:Nat):Int)-1)] (fun v=>∃b,v=.bool b):=by
  rw[show ((n+1:Nat):Int)-1=(n:Int) by omega];exact ih
 (conv=>whnf);repeat' (first|(refine kA ?_;conv=>whnf)|(refine Br.mk (fun hc=>?_) fun hc=>?_<;>first|exact hc.elim|conv=>whnf)|(apply Az;(· exact(hgx (by omega)).1);conv=>whnf)|(refine Ae (ih' (g:=gx) (hgx (by omega)).2.2) ?_;rintro _ ⟨b,rfl⟩;conv=>whnf)|(refine kB ?_))
 all_goals first|exact⟨_,rfl⟩|exact again.mk ⟨_,by omega,i+1,rfl,rfl,rfl⟩
theorem YW {n:Int} {g:GV} (hg:g.ok) (hlist:AX (Ag tab) 191 [.sl g.nn g.l,.int .i64 n] (fun v=>∃b,v=.bool b)):
 AX (Ag tab) 162 [g.av,.int .i64 n] (fun v=>∃b,v=.bool b):=by
 obtain⟨g1,g2,g3,g4,g5,g6,g7⟩:=hg
 unfold Ln at g4 g5
 refine Ai rfl rfl ?_
 (conv=>whnf);repeat' (first|(refine kA ?_;conv=>whnf)|(refine Br.mk (fun hc=>?_) fun hc=>?_<;>first|exact hc.elim|conv=>whnf)|(refine Ae (bare (g:=g)) ?_;rintro _ ⟨b,rfl⟩;conv=>whnf)|(refine Ae (AeS (n:=g.n)) ?_;rintro _ ⟨b,rfl⟩;conv=>whnf)|(refine Ae (Acf (n:=g.n) (d:=g.d)) ?_;rintro _ ⟨b,rfl,_⟩;conv=>whnf)|(refine Ae (Adw g4) ?_;rintro _ ⟨b,rfl⟩;conv=>whnf)|(refine Ae (Acg g5 g7) ?_;rintro _ ⟨b,rfl⟩;conv=>whnf)|(refine Ae hlist ?_;rintro _ ⟨b,rfl⟩;conv=>whnf)|(refine kB ?_))
 all_goals exact⟨_,rfl⟩
theorem valid {n:Nat} (hn:n<2^60):∀{g:GV},g.ok→AX (Ag tab) 162 [g.av,.int .i64 n] (fun v=>∃b,v=.bool b):=by
 induction n with
 |zero=>intro g hg;exact YW hg (Adu hg.2.2.2.2.1)
 |succ n ih=>intro g hg;exact YW hg (Adv (ih (by omega)) (by omega) hg.2.2.2.2.1 hg.2.2.2.2.2.2)
def Abx (v:GV) (n d s l:Bool):Prop:=(n=true∨v.n=0)∧(d=true∨v.d=0)∧(s=true∨v.s=[])∧(l=true∨v.l.length=0)
instance (v:GV) (n d s l:Bool):Decidable (Abx v n d s l):=by unfold Abx;infer_instance
def Iq (P:Int→Prop) (ids:List Int) (a:Int) (k:Nat) (x:Int):Prop:=
 (x=a∧∀y∈ids.take k,¬P y)∨(x≠a∧∃j,j<k∧ids[j]?=some x∧P x∧∀y∈ids.take j,¬P y)
section
variable {P:Int→Prop} {ids:List Int} {a x:Int} {k:Nat}
theorem Iq.start:Iq P ids a 0 a:=.inl ⟨rfl,by simp⟩
theorem Iq.none (h:Iq P ids a k a) (hk:k<ids.length) (hp:¬P ids[k]):Iq P ids a (k+1) a:=by
 rcases h with⟨_,h⟩|⟨h,_⟩
 ·refine .inl ⟨rfl,fun y hy=>?_⟩
  rw[List.take_succ_eq_append_getElem hk,List.mem_append,List.mem_singleton]at hy
  rcases hy with hy|rfl
  ·exact h y hy
  ·exact hp
 ·exact absurd rfl h
theorem Iq.on (h:Iq P ids a k x) (hx:x≠a):Iq P ids a (k+1) x:=by
 rcases h with⟨h,_⟩|⟨h,j,h1,h2⟩
 ·exact absurd h hx
 ·exact .inr ⟨h,j,by omega,h2⟩
theorem YA (hi:ids.Pairwise (· <·)) {i j:Nat} (h1:i<ids.length) (h2:j<ids.length) (h:ids[i]<ids[j]):i<j:=by
 rcases Nat.lt_trichotomy i j with k|k|k
 ·exact k
 ·subst k;omega
 ·have:=List.pairwise_iff_getElem.1 hi j i h2 h1 k;omega
theorem Iq.least {nx:Int→List Int} (h:Iq (fun y=>IY nx a y∧IY nx y a) ids a k x) (hi:ids.Pairwise (· <·)) (hk:ids[k]?=some a) (hin:∀u,IY nx a u→u∈ids):Least nx a x:=by
 obtain⟨hkl,hka⟩:=List.getElem?_eq_some_iff.1 hk
 rcases h with⟨rfl,h⟩|⟨_,j,h1,h2,h3,h4⟩
 ·refine N8 hi hin ⟨.refl,.refl⟩ fun y hy hlt=>h y ?_
  obtain⟨i,h5,rfl⟩:=List.getElem_of_mem hy
  rw[← hka]at hlt
  exact List.mem_take_iff_getElem.2 ⟨i,by have:=YA hi h5 hkl hlt;omega,rfl⟩
 ·obtain⟨hjl,hjx⟩:=List.getElem?_eq_some_iff.1 h2
  refine N8 hi hin h3 fun y hy hlt=>h4 y ?_
  obtain⟨i,h5,rfl⟩:=List.getElem_of_mem hy
  rw[← hjx]at hlt
  exact List.mem_take_iff_getElem.2 ⟨i,by have:=YA hi h5 hjl hlt;omega,rfl⟩
end
section
open Go
set_option maxRecDepth 100000 in
theorem Va:Eb (run (Ag tab) 60) 8 []=some (.bool true):=by kernel_rfl
end
theorem Sj:AX (Ag tab) 8 [] (· =.bool true):=⟨.bool true,⟨60,Va⟩,rfl⟩
def Vj:Nat→AV→Prop
 |0,_=>False
 |d+1,a=>∃g:GV,a=g.av∧g.ok∧g.s.length≤101000∧g.l.length≤2000∧∀x∈g.l,Vj d x
theorem wei:∀(d:Nat),d≤12→∀{g:GV} (hg:g.ok) {left:Int} (h1:-184467440737095530≤left) (h2:left≤2000),
 AX (Ag tab) 78 [g.av,.int .i64 left,.int .i64 d] (fun v=>∃r,v=.int .i64 r∧-368934881474191048≤r∧r≤1999∧(0≤r→r+1≤left∧Vj d g.av)):=by
 intro d
 induction d with
 |zero=>
  intro _ g hg left h1 h2
  obtain⟨g1,g2,g3,g4,g5,g6,g7⟩:=hg
  unfold Ln at g4 g5
  refine Ai rfl rfl ?_
  (conv=>whnf);repeat' (first|(refine kA ?_;conv=>whnf)|(refine Br.mk (fun hc=>?_) fun hc=>?_<;>first|exact hc.elim|conv=>whnf)|(refine QX (by omega) ?_;conv=>whnf)|(refine kB ?_))
  all_goals exact⟨_,rfl,by omega,by omega,fun h=>absurd h (by omega)⟩
 |succ d ih=>
  intro hd g hg left h1 h2
  obtain⟨g1,g2,g3,g4,g5,g6,g7⟩:=hg
  unfold Ln at g4 g5
  refine Ai rfl rfl ?_
  (conv=>whnf);repeat' (first|(refine kA ?_;conv=>whnf)|(refine Br.mk (fun hc=>?_) fun hc=>?_<;>first|exact hc.elim|conv=>whnf)|(refine QX (by omega) ?_;conv=>whnf)|(refine kB ?_))
  have hw:∀{g:GV} (hg:g.ok) {left:Int} (h1:-184467440737095530≤left) (h2:left≤2000),
        AX (Ag tab) 78 [g.av,.int .i64 left,.int .i64 (((d+1:Nat):Int)-1)] (fun v=>∃r,v=.int .i64 r∧-368934881474191048≤r∧r≤1999∧(0≤r→r+1≤left∧Vj d g.av)):=by
   rw[show ((d+1:Nat):Int)-1=(d:Int) by omega]
   exact ih (by omega)
  refine Au (fun m env s=>∃(i:Nat) (cur:Int),m=g.l.length-i∧env=[(1,.int .i64 cur),(2,.int .i64 (d+1:Nat)),(3,.ref 0 0 0 0),(7,.int .i64 i)]∧s=⟨[.arr 0 5 true true [g.av]],1⟩∧
   -368934881474191048≤cur∧cur≤1999∧(0≤cur→cur+i+g.s.length / 50+1≤left∧∀x∈g.l.take i,Vj d x)) ?_ _ _ _ ⟨0,_,rfl,rfl,rfl,by omega,by omega,fun h=>⟨by omega,by simp⟩⟩
  rintro _ _ _ ⟨i,cur,rfl,rfl,rfl,b1,b2,hx⟩
  refine⟨rfl,?_⟩
  obtain⟨gx,hgx⟩:=RS g7 i
  (conv=>whnf);repeat' (first|(refine kA ?_;conv=>whnf)|(refine Br.mk (fun hc=>?_) fun hc=>?_<;>first|exact hc.elim|conv=>whnf)|(apply Az;(· exact(hgx (by omega)).1);conv=>whnf)|(refine kB ?_))
  ·obtain⟨_,ge,gl⟩:=hgx (by omega)
   refine Ae (hw gl (by omega) (by omega)) ?_
   rintro _ ⟨r,rfl,r1,r2,r3⟩
   (conv=>whnf);repeat' (first|(refine kA ?_;conv=>whnf)|(refine Br.mk (fun hc=>?_) fun hc=>?_<;>first|exact hc.elim|conv=>whnf)  |(refine kB ?_))
   exact again.mk ⟨_,by omega,i+1,r,rfl,rfl,rfl,by omega,by omega,fun h=>⟨by have:=hx (by omega);have:=r3 h;omega,BZ (by omega) (hx (by omega)).2 (ge▸(r3 h).2)⟩⟩
  ·exact⟨_,rfl,by omega,by omega,fun h=>absurd h (by omega)⟩
  ·refine⟨_,rfl,by omega,by omega,fun h=>?_⟩
   obtain⟨x1,x2⟩:=hx h
   rw[Ei hc]at x2
   exact⟨by omega,g,rfl,⟨g1,g2,g3,g4,g5,g6,g7⟩,by omega,by omega,x2⟩
theorem weigh {ps:List GP} {nn:Bool} (hl:Ln ps) (hp:∀p∈ps,p.ok) {left:Int} (h1:-9223372036854775808≤left) (h2:left≤2000):
 AX (Ag tab) 44 [.sl nn (vs GP.av ps),.int .i64 left] (fun v=>∃r,v=.int .i64 r∧-9223372036854775808≤r∧r≤2000∧(0≤r→r+ps.length≤left∧∀p∈ps,p.key.length≤101000∧Vj 12 p.v.av)):=by
 unfold Ln at hl
 refine Ai rfl rfl ?_
 (conv=>whnf);repeat' (first|(refine kA ?_;conv=>whnf)|(refine Br.mk (fun hc=>?_) fun hc=>?_<;>first|exact hc.elim|conv=>whnf)  |(refine kB ?_))
 refine Au (fun m env s=>∃(i:Nat) (cur:Int),m=ps.length-i∧env=[(0,.sl nn (vs GP.av ps)),(1,.int .i64 cur),(5,.int .i64 i)]∧s=⟨[],0⟩∧
  -9223372036854775808≤cur∧cur≤2000∧(0≤cur→cur+i≤left∧∀p∈ps.take i,p.key.length≤101000∧Vj 12 p.v.av)) ?_ _ _ _ ⟨0,_,rfl,rfl,rfl,by omega,by omega,fun h=>⟨by omega,by simp⟩⟩
 rintro _ _ _ ⟨i,cur,rfl,rfl,rfl,b1,b2,hx⟩
 refine⟨rfl,?_⟩
 have hat:∀(h:i<ps.length),(ps[i]).ok:=fun h=>hp _ (List.getElem_mem _)
 have hk:∀(h:i<ps.length),(ps[i]).key.length<2^63:=fun h=>(hat h).1
 (conv=>whnf);repeat' (first|(refine kA ?_;conv=>whnf)|(refine Br.mk (fun hc=>?_) fun hc=>?_<;>first|exact hc.elim|conv=>whnf)|(refine QX (hk (by omega)) ?_;conv=>whnf)|(have hwr:=hk (by omega);apply Dz;(· exact wrap_i64 (by omega) (by omega));clear hwr;conv=>whnf)|(refine kB ?_))
 ·refine Ae (wei 12 (by omega) (hat (by omega)).2 (by have:=hk (by omega);omega) (by omega)) ?_
  rintro _ ⟨r,rfl,r1,r2,r3⟩
  (conv=>whnf);repeat' (first|(refine kA ?_;conv=>whnf)|(refine Br.mk (fun hc=>?_) fun hc=>?_<;>first|exact hc.elim|conv=>whnf)  |(refine kB ?_))
  exact again.mk ⟨_,by omega,i+1,r,rfl,rfl,rfl,by omega,by omega,fun h=>⟨by have:=hx (by omega);have:=r3 h;omega,BZ (by omega) (hx (by omega)).2 ⟨by have:=r3 h;omega,(r3 h).2⟩⟩⟩
 ·exact⟨_,rfl,by omega,by omega,fun h=>absurd h (by omega)⟩
 ·refine⟨_,rfl,by omega,by omega,fun h=>?_⟩
  obtain⟨x1,x2⟩:=hx h
  rw[Ei hc]at x2
  exact⟨by omega,x2⟩
def SmP (ps:List GP):Prop:=ps.length≤2000∧∀p∈ps,p.key.length≤101000∧Vj 12 p.v.av
def SmN (n:GN):Prop:=n.labels.length≤2000∧(∀ s∈n.labels,s.length≤101000)∧SmP n.props
def SmE (e:GE):Prop:=e.ty.length≤101000∧SmP e.props
def SmG (g:GG) (n e:Int):Prop:=g.nodes.length≤n∧g.edges.length≤e∧(∀ n∈g.nodes,SmN n)∧∀e∈g.edges,SmE e
theorem small {g:GG} (hg:g.ok) {n e:Int}:AX (Ag tab) 21 [g.av,.int .i64 n,.int .i64 e] (fun v=>∃b,v=.bool b∧(b=true→SmG g n e)):=by
 obtain⟨g1,g2,g3,g4,g5,g6,g7,g8⟩:=hg
 unfold Ln at g1 g4
 refine Ai rfl rfl ?_
 (conv=>whnf);repeat' (first|(refine kA ?_;conv=>whnf)|(refine Br.mk (fun hc=>?_) fun hc=>?_<;>first|exact hc.elim|conv=>whnf)  |(refine kB ?_))
 ·exact⟨_,rfl,fun h=>by cases h⟩
 ·exact⟨_,rfl,fun h=>by cases h⟩
 refine Au (fun m env s=>∃(i c:Nat) (left:Int),m=g.nodes.length-i∧env=[(3,.ref 0 0 0 0),(7,.int .i64 left),(8,.int .i64 i)]∧s=⟨[.arr 0 4 true true [g.av]],c⟩∧-9223372036854775808≤left∧left≤2000∧(0≤left→∀n∈g.nodes.take i,SmN n)) ?_ _ _ _ ⟨0,1,2000,rfl,rfl,rfl,by omega,by omega,fun _=>by simp⟩
 rintro _ _ _ ⟨i,c,left,rfl,rfl,rfl,b1,b2,hx⟩
 refine⟨rfl,?_⟩
 have hat:∀h:i<g.nodes.length,(g.nodes[i]).ok:=fun h=>g3 _ (List.getElem_mem _)
 have hk:∀h:i<g.nodes.length,(g.nodes[i]).labels.length<2^63:=fun h=>(hat h).2.1
 (conv=>whnf);repeat' (first|(refine kA ?_;conv=>whnf)|(refine Br.mk (fun hc=>?_) fun hc=>?_<;>first|exact hc.elim|conv=>whnf)|(have hwr:=hk (by omega);apply Dz;(· exact wrap_i64 (by omega) (by omega));clear hwr;conv=>whnf)|(refine kB ?_))
 rotate_left
 ·have hN:0≤left→∀n∈g.nodes,SmN n:=fun h=>absurd h (by omega)
  refine Au (fun m env s=>∃(i c:Nat) (left:Int),m=g.edges.length-i∧env=[(3,.ref 0 0 0 0),(7,.int .i64 left),(11,.int .i64 i)]∧s=⟨[.arr 0 4 true true [g.av]],c⟩∧-9223372036854775808≤left∧left≤2000∧(0≤left→(∀ n∈g.nodes,SmN n)∧∀n∈g.edges.take i,SmE n)) ?_ _ _ _ ⟨0,_,left,rfl,rfl,rfl,by omega,by omega,fun h=>⟨hN h,by simp⟩⟩
  clear hN hx hat hk b1 b2 hc
  rintro _ _ _ ⟨i,c,left,rfl,rfl,rfl,b1,b2,hx⟩
  refine⟨rfl,?_⟩
  have hat:∀h:i<g.edges.length,(g.edges[i]).ok:=fun h=>g6 _ (List.getElem_mem _)
  have hk:∀h:i<g.edges.length,(g.edges[i]).ty.length<2^63:=fun h=>(hat h).2.2.2.1
  (conv=>whnf);repeat' (first|(refine kA ?_;conv=>whnf)|(refine Br.mk (fun hc=>?_) fun hc=>?_<;>first|exact hc.elim|conv=>whnf)|(refine QX (hk (by omega)) ?_;conv=>whnf)|(have hwr:=hk (by omega);apply Dz;(· exact wrap_i64 (by omega) (by omega));clear hwr;conv=>whnf)|(refine kB ?_))
  ·refine Ae (weigh (hat (by omega)).2.2.2.2.1 (hat (by omega)).2.2.2.2.2.2 (by have:=hk (by omega);omega) (by omega)) ?_
   rintro _ ⟨r,rfl,r1,r2,r3⟩
   (conv=>whnf);repeat' (first|(refine kA ?_;conv=>whnf)|(refine Br.mk (fun hc=>?_) fun hc=>?_<;>first|exact hc.elim|conv=>whnf)  |(refine kB ?_))
   have hk1:=hk (by omega)
   exact again.mk ⟨_,by omega,i+1,_,r,rfl,rfl,rfl,by omega,by omega,fun h=>⟨(hx (by omega)).1,BZ (by omega) (hx (by omega)).2 ⟨by have:=r3 h;omega,by have:=r3 h;omega,(r3 h).2⟩⟩⟩
  all_goals first
   |exact⟨_,rfl,fun h=>absurd h Bool.false_ne_true⟩
   |(refine ⟨_,rfl,fun h=>?_⟩
     rename_i hc1
     obtain⟨x1,x2⟩:=hx hc
     rw[Ei hc1]at x2
     exact⟨by omega,by omega,x1,x2⟩)
 ·have hN:0≤left→∀n∈g.nodes,SmN n:=by rw[Ei hc]at hx;exact hx
  refine Au (fun m env s=>∃(i c:Nat) (left:Int),m=g.edges.length-i∧env=[(3,.ref 0 0 0 0),(7,.int .i64 left),(11,.int .i64 i)]∧s=⟨[.arr 0 4 true true [g.av]],c⟩∧-9223372036854775808≤left∧left≤2000∧(0≤left→(∀ n∈g.nodes,SmN n)∧∀n∈g.edges.take i,SmE n)) ?_ _ _ _ ⟨0,_,left,rfl,rfl,rfl,by omega,by omega,fun h=>⟨hN h,by simp⟩⟩
  clear hN hx hat hk b1 b2 hc
  rintro _ _ _ ⟨i,c,left,rfl,rfl,rfl,b1,b2,hx⟩
  refine⟨rfl,?_⟩
  have hat:∀h:i<g.edges.length,(g.edges[i]).ok:=fun h=>g6 _ (List.getElem_mem _)
  have hk:∀h:i<g.edges.length,(g.edges[i]).ty.length<2^63:=fun h=>(hat h).2.2.2.1
  (conv=>whnf);repeat' (first|(refine kA ?_;conv=>whnf)|(refine Br.mk (fun hc=>?_) fun hc=>?_<;>first|exact hc.elim|conv=>whnf)|(refine QX (hk (by omega)) ?_;conv=>whnf)|(have hwr:=hk (by omega);apply Dz;(· exact wrap_i64 (by omega) (by omega));clear hwr;conv=>whnf)|(refine kB ?_))
  ·refine Ae (weigh (hat (by omega)).2.2.2.2.1 (hat (by omega)).2.2.2.2.2.2 (by have:=hk (by omega);omega) (by omega)) ?_
   rintro _ ⟨r,rfl,r1,r2,r3⟩
   (conv=>whnf);repeat' (first|(refine kA ?_;conv=>whnf)|(refine Br.mk (fun hc=>?_) fun hc=>?_<;>first|exact hc.elim|conv=>whnf)  |(refine kB ?_))
   have hk1:=hk (by omega)
   exact again.mk ⟨_,by omega,i+1,_,r,rfl,rfl,rfl,by omega,by omega,fun h=>⟨(hx (by omega)).1,BZ (by omega) (hx (by omega)).2 ⟨by have:=r3 h;omega,by have:=r3 h;omega,(r3 h).2⟩⟩⟩
  all_goals first
   |exact⟨_,rfl,fun h=>absurd h Bool.false_ne_true⟩
   |(refine ⟨_,rfl,fun h=>?_⟩
     rename_i hc1
     obtain⟨x1,x2⟩:=hx hc
     rw[Ei hc1]at x2
     exact⟨by omega,by omega,x1,x2⟩)
 refine Ae (weigh (hat (by omega)).2.2.2.2.1 (hat (by omega)).2.2.2.2.2.2 (by have:=hk (by omega);omega) (by omega)) ?_
 rintro _ ⟨r,rfl,r1,r2,r3⟩
 (conv=>whnf);repeat' (first|(refine kA ?_;conv=>whnf)|(refine Br.mk (fun hc=>?_) fun hc=>?_<;>first|exact hc.elim|conv=>whnf)  |(refine kB ?_))
 refine Au (fun m env s=>∃(j:Nat) (l2:Int),m=(g.nodes[i]).labels.length-j∧env=[(3,.ref 0 0 0 0),(7,.int .i64 l2),(8,.int .i64 i),(9,.ref 1 c 0 0),(10,.int .i64 j)]∧s=⟨[.arr 0 4 true true [g.av],.arr c 3 true true [(g.nodes[i]).av]],c+1⟩∧-9223372036854775808≤l2∧l2≤2000∧(0≤l2→0≤r∧∀s∈(g.nodes[i]).labels.take j,s.length≤101000)) ?_ _ _ _ ⟨0,r,rfl,rfl,rfl,by omega,by omega,fun h=>⟨h,by simp⟩⟩
 rintro _ _ _ ⟨j,l2,rfl,rfl,rfl,d1,d2,hy⟩
 refine⟨rfl,?_⟩
 have hlb:∀h:j<(g.nodes[i]).labels.length,((g.nodes[i]).labels[j]).length<2^63:=fun h=>(hat (by omega)).2.2.2.1 _ (List.getElem_mem _)
 have hk1:=hk (by omega)
 (conv=>whnf);repeat' (first|(refine kA ?_;conv=>whnf)|(refine Br.mk (fun hc=>?_) fun hc=>?_<;>first|exact hc.elim|conv=>whnf)|(refine QX (hlb (by omega)) ?_;conv=>whnf)|(have hwr:=hlb (by omega);apply Dz;(· exact wrap_i64 (by omega) (by omega));clear hwr;conv=>whnf)|(refine kB ?_))
 ·have:=hlb (by omega)
  exact again.mk ⟨_,by omega,j+1,_,rfl,rfl,rfl,by omega,by omega,fun h=>⟨(hy (by omega)).1,BZ (by omega) (hy (by omega)).2 (by omega)⟩⟩
 ·exact again.mk ⟨_,by omega,i+1,_,l2,rfl,rfl,rfl,by omega,by omega,fun h=>absurd h (by omega)⟩
 ·refine again.mk ⟨_,by omega,i+1,_,l2,rfl,rfl,rfl,by omega,by omega,fun h=>?_⟩
  obtain⟨y1,y2⟩:=hy h
  rw[Ei hc]at y2
  have:=r3 y1
  exact BZ (by omega) (hx (by omega)) ⟨by omega,y2,by omega,this.2⟩
theorem Acu {g:GG} (hg:g.ok):AX (Ag tab) 7 [g.av] (fun v=>∃b,v=.bool b∧(b=true→g.nodes.length≤20∧g.edges.length≤40)):=by
 obtain⟨_,⟨b,rfl,hb⟩,p⟩:=(small hg (n:=20) (e:=40)).UZ
 refine Ai rfl rfl ?_
 (conv=>whnf);repeat' (first|(refine Ae p ?_;rintro _ rfl;conv=>whnf)|(refine kA ?_;conv=>whnf)|(refine Br.mk (fun hc=>?_) fun hc=>?_<;>first|exact hc.elim|conv=>whnf)|(refine kB ?_))
 all_goals first
  |(refine ⟨true,rfl,fun h=>?_⟩;have:=hb (by assumption);unfold SmG at this;omega)
  |exact⟨false,rfl,fun h=>by cases h⟩
theorem Vm {a:AV} (h:Like Tryz.prog 26 a):∃nn l,a=.sl nn (vs .str l)∧l.length<2^63:=by
 obtain⟨d,h⟩:=h
 obtain⟨nn,l,e,_,h2,_⟩:=Y7 (f:=AV.str) (Q:=Ln) Tryz.underlying26 (fun d x h=>by
  obtain⟨k,e1,h1⟩:=Ob Tryz.underlying9 h
  exact⟨k,e1,Rh h1⟩) h
 exact⟨nn,l,e,Rh h2⟩
theorem AdG {α:Type} {f:α→AV} {l:List α} {n:Nat} (h:n=l.length):sub (vs f l) 0 n=vs f l:=by
 subst h
 exact uV
theorem Gf.len {S:List Int} {es l:List (Int×Int)} (h:Gf S es l):l.length=S.length:=by
 have:=congrArg List.length h.nm
 simpa using this
def Wn (e:GE):GE:={e with fr:=e.to,to:=e.fr}
def XD (g:GG):GG:={g with edges:=g.edges.map Wn,en:=true}
theorem Wp (g:GG):BQ (XD g)=BQ g:=rfl
theorem Wq (types:List (List UInt8)) (g:GG):Eh types (XD g)=KF (Eh types g):=by
 unfold Eh Fh KF XD
 rw[List.filter_map,List.map_map,List.map_map]
 rfl
theorem XE {g:GG} (h:BK g=0):BK (XD g)=0:=by
 obtain⟨a,b,c,d⟩:=Mc h
 have hE:(XD g).edges=g.edges.map Wn:=rfl
 have hat:∀k (hk:k<g.edges.length),((XD g).edges[k]'(by rw[hE,List.length_map];exact hk))=Wn g.edges[k]:=fun k hk=>by simp[hE]
 have:=Yb (g:=XD g) ⟨a.1,by rw[hE,List.length_map];exact a.2⟩ b c fun k hk=>by
  have hk':k<g.edges.length:=by rw[hE,List.length_map]at hk;exact hk
  obtain⟨e1,e2,e3,e4,e5,e6,e7⟩:=VW hk' (d k hk')
  have q:=hat k hk'
  rw[VL (N:=(XD g).nodes) (E:=(XD g).edges) (nx:=(XD g).Gq) hk (fun h0=>by rw[q,hat (k-1) (by omega)];have:=e1 h0;show¬(g.edges[k]).id≤(g.edges[k-1]).id;omega) (by rw[q];show¬((g.edges[k]).id<1∨g.Gq≤(g.edges[k]).id);omega) (by rw[q];exact⟨e5,e4⟩) (by rw[q];exact e6),q]
  exact e7
 injection this with _ h2
 exact h2.symm
theorem Zt {g:GG} (h:g.ok):(XD g).ok:=by
 obtain⟨a,b,c,d,e,f,i,j⟩:=h
 refine⟨a,b,c,?_,(fun h=>by cases h),?_,i,j⟩
 ·unfold Ln at *;show(g.edges.map Wn).length<_;rw[List.length_map];exact d
 ·intro x hx
  obtain⟨y,hy,rfl⟩:=List.mem_map.1 hx
  obtain⟨f1,f2,f3,f4⟩:=f y hy
  exact⟨f1,f3,f2,f4⟩
theorem Vk {S:List Int} {es l:List (Int×Int)} (h:Gf S es l):Gf S (KF es) l:=⟨h.nm,fun p hp=>XF (h.ls p hp)⟩
theorem Aa1 (e:GE):e.av.cells.length=5:=rfl
set_option maxHeartbeats 8000000 in
theorem YB:∀xs,likes Tryz.prog [25,26] xs→CJ (Ag tab) 4 xs ⟨[],0⟩ fun out _=>out=.ok (.bool true):=by
 intro xs h
 match xs,h with
 |[x,y],h=>
  obtain⟨h1,h2,_⟩:=h
  obtain⟨g,rfl,hg⟩:=Vl h1
  obtain⟨tn,types,rfl,hl⟩:=Vm h2
  clear h1 h2
  obtain⟨_,⟨b,rfl,hb⟩,p0⟩:=(Acu hg).UZ
  have pc:=UE hg
  refine CB rfl rfl ?_
  cases b with
  |false=>
   (conv=>whnf);repeat' (first|((first|refine Ae Sj ?_|refine Ae p0 ?_);rintro _ rfl;conv=>whnf)|(refine kA ?_;conv=>whnf)|(refine Br.mk (fun hc=>?_) fun hc=>?_<;>first|exact hc.elim|conv=>whnf)|(refine kB ?_))
   all_goals first|rfl
  |true=>
  obtain⟨hN,hE⟩:=hb rfl
  clear hb
  by_cases hck:BK g=0
  case neg=>
   (conv=>whnf);repeat' (first|((first|refine Ae Sj ?_|refine Ae p0 ?_|refine Ae pc ?_);rintro _ rfl;conv=>whnf)|(refine kA ?_;conv=>whnf)|(refine Br.mk (fun hc=>?_) fun hc=>?_<;>first|exact hc.elim|conv=>whnf)|(refine kB ?_))
   all_goals first|rfl|exact absurd ‹_› hck
  rw[hck]at pc
  obtain⟨_,⟨b1,rfl,_⟩,p1⟩:=(Abr (types:=types) (tn:=tn) hl hg (by omega) (by omega)).UZ
  obtain⟨_,⟨b3,l,rfl,s1,s2⟩,p3⟩:=(Ws (types:=types) (tn:=tn) hl hg (by omega) (by omega)).UZ
  have hS:=s2 hck
  have hrl:(XD g).edges.length=g.edges.length:=by show(g.edges.map Wn).length=_;rw[List.length_map]
  have hrk:=XE hck
  obtain⟨_,⟨b5,rfl,_⟩,p5⟩:=(Abr (types:=types) (tn:=tn) hl (Zt hg) (by show g.nodes.length<_;omega) (by omega)).UZ
  obtain⟨_,⟨b6,m,rfl,t1,t2⟩,p6⟩:=(Ws (types:=types) (tn:=tn) hl (Zt hg) (by show g.nodes.length≤_;omega) (by omega)).UZ
  have hSr:=t2 hrk
  rw[Wq,Wp]at hSr
  have hml:m=l:=hSr.uniq (Vk hS)
  subst hml
  have Md:=Py hck
  have hes:∀e∈Eh types g,e.1∈BQ g∧e.2∈BQ g:=fun e he=>by
   obtain⟨x,hx,rfl⟩:=List.mem_map.1 he
   exact Md x (List.mem_filter.1 hx).1
  have hin:∀{a u:Int},a∈BQ g→IY (JD (Eh types g)) a u→u∈BQ g:=fun ha h=>h.stay (C:=fun u=>u∈BQ g) (fun v hv w hw=>(hes _ (Jo.1 hw)).2) ha
  rw[if_pos hck]at p1
  rw[if_pos hrk,show Fj types (XD g)=JQ (BQ g) (KF (Eh types g)) by unfold Fj;rw[Wq,Wp],Zu hes,show JQ (BQ g) (Eh types g)=Fj types g from rfl]at p5
  have hw:Fj types g=AQ (BQ g) (KG (Eh types g)):=PZ hes
  have hwl:(Fj types g).length=g.nodes.length:=by rw[hw];simp[AQ,BQ]
  have hll:m.length=g.nodes.length:=by rw[hS.len,F9]
  have q1:=AbE (l:=Fj types g) (m:=Fj types g) (b1:=b5) (b2:=b1) (by omega) (by omega)
  rw[decide_eq_true rfl]at q1
  have q2:=AbE (l:=m) (m:=m) (b1:=b6) (b2:=b3) (by omega) (by omega)
  rw[decide_eq_true rfl]at q2
  have AdV:∀i (h:i<g.nodes.length),((Fj types g)[i]'(by omega)).1=(g.nodes[i]).id∧((Fj types g)[i]'(by omega)).2=KG (Eh types g) (g.nodes[i]).id:=fun i h=>by
   have:(Fj types g)[i]'(by omega)=((g.nodes[i]).id,KG (Eh types g) (g.nodes[i]).id):=by
     simp only[hw,AQ,BQ,List.getElem_map]
   rw[this];exact⟨rfl,rfl⟩
  have Acv:∀i (h:i<g.nodes.length),(m[i]'(by omega)).1=(g.nodes[i]).id:=fun i h=>by
   have:=hS.nm
   have e1:(m.map (·.1))[i]'(by simp;omega)=(BQ g)[i]'(by rw[F9];exact h):=by simp only[this]
   rw[List.getElem_map,L9 h]at e1
   exact e1
  have hfin:∀i (h:i<g.nodes.length),Jy (Fj types g) (m[i]'(by omega)).2=some (KG (Eh types g) (g.nodes[i]).id)∧(m[i]'(by omega)).2≤(g.nodes[i]).id∧KG (Eh types g) (g.nodes[i]).id≤(m[i]'(by omega)).2:=fun i h=>by
   have hL:=hS.ls _ (List.getElem_mem (show i<m.length by omega))
   rw[Acv i h]at hL
   have ha:(g.nodes[i]).id∈BQ g:=List.mem_map_of_mem (List.getElem_mem h)
   obtain⟨e1,e2,e3⟩:=Vo hL
   refine⟨?_,e2,e3⟩
   rw[hw,←e1]
   exact Kz _ _ (hin ha hL.1)
  clear s1 s2 t1 t2 hSr hS hw hes hin Md
  (conv=>whnf);repeat' (first|((first|refine Ae Sj ?_|refine Ae p0 ?_|refine Ae pc ?_|refine Ae p1 ?_|refine Ae p3 ?_);rintro _ rfl;conv=>whnf)|(refine kA ?_;conv=>whnf)|(refine Br.mk (fun hc=>?_) fun hc=>?_<;>first|exact hc.elim|conv=>whnf)|(refine kB ?_))
  all_goals first|(exfalso;omega)|skip
  refine Au (fun μ env s=>∃(i c:Nat),μ=g.nodes.length-i∧i≤g.nodes.length∧env=[(1,.sl tn (vs .str types)),(2,.ref 0 0 0 0),(5,.sl b1 (vs pv (Fj types g))),(6,.sl b3 (vs pv m)),(7,.int .i64 i)]∧s=⟨[.arr 0 4 true true [g.av]],c⟩) ?_ _ _ _ ⟨0,_,rfl,by omega,rfl,rfl⟩
  rintro _ _ _ ⟨i,c,rfl,hi,rfl,rfl⟩
  refine⟨rfl,?_⟩
  by_cases hlt:i<g.nodes.length
  ·obtain⟨f1,f2,f3⟩:=hfin i hlt
   obtain⟨f4,f5⟩:=AdV i hlt
   have f6:=Acv i hlt
   have pf:=Ac0 (l:=Fj types g) (a:=(m[i]'(by omega)).2) (nn:=b1) (by omega)
   rw[f1]at pf
   have g1:i<(Fj types g).length:=by omega
   have g2:i<m.length:=by omega
   (conv=>whnf);repeat' (first|(refine Ae pf ?_;rintro _ rfl;conv=>whnf)|(refine kA ?_;conv=>whnf)|(refine Br.mk (fun hc=>?_) fun hc=>?_<;>first|exact hc.elim|conv=>whnf)|(refine kB ?_))
   all_goals first
     |(exfalso;omega)
     |exact again.mk ⟨_,by omega,i+1,_,rfl,by omega,rfl,rfl⟩
  clear hfin AdV Acv
  (conv=>whnf);repeat' (first  |(refine kA ?_;conv=>whnf)|(refine Br.mk (fun hc=>?_) fun hc=>?_<;>first|exact hc.elim|conv=>whnf)|(refine kB ?_))
  all_goals first|(exfalso;omega)|skip
  have hRl:((g.edges.take g.edges.length).map Wn)=g.edges.map Wn:=by rw[List.take_length]
  refine Au (fun μ env s=>∃(i c1 ga n:Nat),μ=g.edges.length-i∧i≤g.edges.length∧n=i∧env=[(1,.sl tn (vs .str types)),(2,.ref 0 0 0 0),(5,.sl b1 (vs pv (Fj types g))),(6,.sl b3 (vs pv m)),(10,.ref 1 c 0 0),(11,.int .i64 i)]∧s=⟨[.arr 0 4 true true [g.av],.arr c 4 true false [.agg [.sl g.nn (vs GN.av g.nodes),.own 2 ga 0 n,.int .i64 g.F5,.int .i64 g.Gq]],.arr ga 5 true true (vs GE.av ((g.edges.take i).map Wn))],c1⟩) ?_ _ _ _ ⟨0,_,_,_,rfl,by omega,rfl,rfl,rfl⟩
  clear hlt hi
  rintro _ _ _ ⟨i,c1,ga,n,rfl,hi,rfl,rfl,rfl⟩
  refine⟨rfl,?_⟩
  by_cases hlt:n<g.edges.length
  ·have hsn:(g.edges.take (n+1)).map Wn=(g.edges.take n).map Wn++[Wn g.edges[n]]:=by rw[List.take_succ_eq_append_getElem hlt,List.map_append];rfl
   have htl:n=((g.edges.take n).map Wn).length:=by rw[List.length_map,List.length_take];omega
   (conv=>whnf);repeat' (first|(refine Aav (f:=GE.av) (l:=(g.edges.take n).map Wn) (x:=Wn g.edges[n]) Aa1 htl (by rw[← htl];omega) ?_;conv=>whnf)|(refine kA ?_;conv=>whnf)|(refine Br.mk (fun hc=>?_) fun hc=>?_<;>first|exact hc.elim|conv=>whnf)|(refine kB ?_))
   all_goals first
     |(exfalso;omega)
     |(rw [← hsn];exact again.mk ⟨_,by omega,n+1,_,_,_,rfl,by omega,by omega,rfl,rfl⟩)
  ·have hne:n=g.edges.length:=by omega
   subst hne
   rw[hRl]
   (conv=>whnf);repeat' (first|(refine need.mk ⟨⟨rfl,rfl,rfl,rfl,by omega,by rw[lV,List.length_map];omega,rfl⟩,rfl⟩ ?_;conv=>whnf)|(refine EU (AdG (show g.edges.length=_ by rw[List.length_map])) ?_;conv=>whnf)|((first|refine Ae p5 ?_|refine Ae p6 ?_|refine Ae q1 ?_|refine Ae q2 ?_|refine Ae Sj ?_);rintro _ rfl;conv=>whnf)|(refine kA ?_;conv=>whnf)|(refine Br.mk (fun hc=>?_) fun hc=>?_<;>first|exact hc.elim|conv=>whnf)|(refine kB ?_))
   all_goals first
     |(exfalso;omega)
     |rfl
end AI
end Go.Proofs.YtjjhejbffgaabaaGreatDoor
