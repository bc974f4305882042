/- The reference's validity of values, with lists in lists. The reference's numbers, classes, strings compared. The reference's comparison of a fraction with itself. Numbers by their digits to the base 1000: plain. The reference's wide numbers: what their product and their order are. Fractions compared: the program's way and the reference's. Valid values, exactly: the program's. The reference's bare values and strings. -/
import Derived.Test.YtegcpbncohoflaaGreatDoorGMae
import Derived.Test.YtegcpbncohoflaaGreatDoorGMad
set_option linter.unusedVariables false
namespace Go.Proofs.YtegcpbncohoflaaGreatDoor
namespace AI
theorem Acy {l:List AV} {nn:Bool} (hl:l.length<2^63):Af (Ae tab) 98 [.sl nn l,.int .i64 0] (fun v=>∃b,v=.bool b):=by
 refine Ac rfl rfl ?_
 (conv=>whnf);repeat' (first|(refine kA ?_;conv=>whnf)|(refine Br.mk (fun hc=>?_) fun hc=>?_<;>first|exact hc.elim|conv=>whnf)  |(refine kB ?_))
 all_goals exact⟨_,rfl⟩
theorem Acz {n:Nat} (ih:∀{g:GV},g.ok→Af (Ae tab) 78 [g.av,.int .i64 n] (fun v=>∃b,v=.bool b)) (hn:n<2^60) {l:List AV} {nn:Bool} (hl:l.length<2^63) (h:∀x∈l,Like Tryz.prog 57 x):
 Af (Ae tab) 98 [.sl nn l,.int .i64 (n+1:Nat)] (fun v=>∃b,v=.bool b):=by
 refine Ac rfl rfl ?_
 (conv=>whnf);repeat' (first|(refine kA ?_;conv=>whnf)|(refine Br.mk (fun hc=>?_) fun hc=>?_<;>first|exact hc.elim|conv=>whnf)  |(refine kB ?_))
 all_goals first|exact⟨_,rfl⟩|skip
 refine Aq (fun m env s'=>∃i:Nat,m=l.length-i∧env=[(0,.sl nn l),(1,.int .i64 (n+1:Nat)),(5,.int .i64 i)]∧s'=⟨[],0⟩) ?_ _ _ _ ⟨0,rfl,rfl,rfl⟩
 rintro _ _ _ ⟨i,rfl,rfl,rfl⟩
 refine⟨rfl,?_⟩
 obtain⟨gx,hgx⟩:=H9 h i
 have ih':∀{g:GV},g.ok→Af (Ae tab) 78 [g.av,.int .i64 (((n+1:Nat):Int)-1)] (fun v=>∃b,v=.bool b):=by
  rw[show ((n+1:Nat):Int)-1=(n:Int) by omega];exact ih
 (conv=>whnf);repeat' (first|(refine kA ?_;conv=>whnf)|(refine Br.mk (fun hc=>?_) fun hc=>?_<;>first|exact hc.elim|conv=>whnf)|(apply Bq;(· exact(hgx (by omega)).1);conv=>whnf)|(refine Aa (ih' (g:=gx) (hgx (by omega)).2.2) ?_;rintro _ ⟨b,rfl⟩;conv=>whnf)|(refine kB ?_))
 all_goals first|exact⟨_,rfl⟩|exact again.mk ⟨_,by omega,i+1,rfl,rfl,rfl⟩
theorem Ym {n:Int} {g:GV} (hg:g.ok) (hlist:Af (Ae tab) 98 [.sl g.nn g.l,.int .i64 n] (fun v=>∃b,v=.bool b)):
 Af (Ae tab) 78 [g.av,.int .i64 n] (fun v=>∃b,v=.bool b):=by
 obtain⟨g1,g2,g3,g4,g5,g6,g7⟩:=hg
 unfold Ln at g4 g5
 refine Ac rfl rfl ?_
 (conv=>whnf);repeat' (first|(refine kA ?_;conv=>whnf)|(refine Br.mk (fun hc=>?_) fun hc=>?_<;>first|exact hc.elim|conv=>whnf)|(refine Aa (bare (g:=g)) ?_;rintro _ ⟨b,rfl⟩;conv=>whnf)|(refine Aa (Aeo (n:=g.n)) ?_;rintro _ ⟨b,rfl⟩;conv=>whnf)|(refine Aa (Aa6 (n:=g.n) (d:=g.d)) ?_;rintro _ ⟨b,rfl,_⟩;conv=>whnf)|(refine Aa (Acx g4) ?_;rintro _ ⟨b,rfl⟩;conv=>whnf)|(refine Aa (Aa7 g5 g7) ?_;rintro _ ⟨b,rfl⟩;conv=>whnf)|(refine Aa hlist ?_;rintro _ ⟨b,rfl⟩;conv=>whnf)|(refine kB ?_))
 all_goals exact⟨_,rfl⟩
theorem valid {n:Nat} (hn:n<2^60):∀{g:GV},g.ok→Af (Ae tab) 78 [g.av,.int .i64 n] (fun v=>∃b,v=.bool b):=by
 induction n with
 |zero=>intro g hg;exact Ym hg (Acy hg.2.2.2.2.1)
 |succ n ih=>intro g hg;exact Ym hg (Acz (ih (by omega)) (by omega) hg.2.2.2.2.1 hg.2.2.2.2.2.2)
theorem Valid {g:GV} (hg:g.ok):Af (Ae tab) 62 [g.av] (fun v=>∃b,v=.bool b):=by
 refine Ac rfl rfl ?_
 (conv=>whnf);repeat' (first|(refine kA ?_;conv=>whnf)|(refine Br.mk (fun hc=>?_) fun hc=>?_<;>first|exact hc.elim|conv=>whnf)|(refine Aa (valid (n:=8) (by omega) hg) ?_;rintro _ ⟨b,rfl⟩;conv=>whnf)|(refine kB ?_))
 all_goals exact⟨_,rfl⟩
theorem Ql:∀s:List UInt8,Op.bytesLess s s=false
 |[]=>rfl
 |a::s=>by simp[Op.bytesLess,Ql s]
theorem Afa {s:List UInt8}:Af (Ae tab) 79 [.str s,.str s] (· =.int .i64 0):=by
 refine Ac rfl rfl ?_
 (conv=>whnf);repeat' (first|(refine kA ?_;conv=>whnf)|(refine Br.mk (fun hc=>?_) fun hc=>?_<;>first|exact hc.elim|conv=>whnf)  |(refine kB ?_))
 all_goals first|rfl|(exfalso;simp[Ql]at hc)
theorem plus {x y:List Int} {na nb:Bool} (hx:Pz x) (hy:Pz y):Af (Ae tab) 100 [PD na x,PD nb y] (fun v=>∃nn l,v=PD nn l):=by
 have hxl:=hx.1
 have hyl:=hy.1
 refine Ac rfl rfl ?_
 (conv=>whnf);repeat' (first|(refine kA ?_;conv=>whnf)|(refine Br.mk (fun hc=>?_) fun hc=>?_<;>first|exact hc.elim|conv=>whnf)  |(refine kB ?_))
 refine Aq (fun m env s=>∃(k:Nat) (c:Int) (l:List Int),m=14-k∧0≤c∧c≤1∧l.length=14∧env=[(0,PD na x),(1,PD nb y),(5,.own 0 0 0 (Int.toNat (Nat.cast x.length))),(6,.int .i64 c),(7,.int .i64 k)]∧s=⟨[.arr 0 1 true true (ints l)],1⟩) ?_ _ _ _ ⟨0,0,List.replicate x.length 0,rfl,by omega,by omega,by simp[hxl],rfl,rfl⟩
 rintro _ _ _ ⟨k,c,l,rfl,c0,c1,hl,rfl,rfl⟩
 refine⟨rfl,?_⟩
 have bx:∀h:k<x.length,0≤x[k]∧x[k]≤999:=fun h=>hx.2 _ (List.getElem_mem h)
 have bY:∀h:k<y.length,0≤y[k]∧y[k]≤999:=fun h=>hy.2 _ (List.getElem_mem h)
 have hq:∀(h:k<x.length) (h2:k<y.length),(c+x[k]+y[k]).tdiv 1000=(c+x[k]+y[k]) / 1000∧0≤x[k]∧x[k]≤999∧0≤y[k]∧y[k]≤999:=by
  intro h h2
  have:=bx h
  have:=bY h2
  exact⟨tdE (by omega),by omega⟩
 (conv=>whnf);repeat' (first|(refine kA ?_;conv=>whnf)|(refine Br.mk (fun hc=>?_) fun hc=>?_<;>first|exact hc.elim|conv=>whnf)|(have hwr:=hq (by omega) (by omega);apply BD;(· exact wrap_i64 (by omega) (by omega));clear hwr;conv=>whnf)|(refine kB ?_))
 ·obtain⟨q1,q2⟩:=hq (by omega) (by omega)
  exact again.mk ⟨_,by omega,k+1,_,_,rfl,by omega,by omega,by rw[List.length_set];exact hl,rfl,rfl⟩
 ·refine⟨true,l,?_⟩
  rw[hxl]
  have:=@uI l
  rw[hl]at this
  exact congrArg (AV.sl true) this
theorem Abj {c0:Nat} {x y:List Int} (hx:Pz x) (hy:Pz y):FB (Ae tab) 100 [.own 0 0 0 14,.own 1 1 0 14] ⟨[.arr 0 1 true true (ints x),.arr 1 1 true true (ints y)],c0⟩ fun out s'=>∃l:List Int,out=.ok (.own 2 c0 0 14)∧s'=⟨[.arr 0 1 true true (ints x),.arr 1 1 true true (ints y),.arr c0 1 true true (ints l)],c0+1⟩∧l.length=14:=by
 have hxl:=hx.1
 have hyl:=hy.1
 refine Lm rfl rfl ?_
 (conv=>whnf);repeat' (first|(refine kA ?_;conv=>whnf)|(refine Br.mk (fun hc=>?_) fun hc=>?_<;>first|exact hc.elim|conv=>whnf)  |(refine kB ?_))
 refine Aq (fun m env s=>∃(k:Nat) (c:Int) (l:List Int),m=14-k∧0≤c∧c≤1∧l.length=14∧env=[(0,.own 0 0 0 14),(1,.own 1 1 0 14),(5,.own 2 c0 0 14),(6,.int .i64 c),(7,.int .i64 k)]∧s=⟨[.arr 0 1 true true (ints x),.arr 1 1 true true (ints y),.arr c0 1 true true (ints l)],c0+1⟩) ?_ _ _ _ ⟨0,0,List.replicate 14 0,rfl,by omega,by omega,by simp,rfl,rfl⟩
 rintro _ _ _ ⟨k,c,l,rfl,c2,c1,hl,rfl,rfl⟩
 refine⟨rfl,?_⟩
 have bx:∀h:k<x.length,0≤x[k]∧x[k]≤999:=fun h=>hx.2 _ (List.getElem_mem h)
 have bY:∀h:k<y.length,0≤y[k]∧y[k]≤999:=fun h=>hy.2 _ (List.getElem_mem h)
 have hq:∀(h:k<x.length) (h2:k<y.length),(c+x[k]+y[k]).tdiv 1000=(c+x[k]+y[k]) / 1000∧0≤x[k]∧x[k]≤999∧0≤y[k]∧y[k]≤999:=by
  intro h h2
  have:=bx h
  have:=bY h2
  exact⟨tdE (by omega),by omega⟩
 (conv=>whnf);repeat' (first|(refine kA ?_;conv=>whnf)|(refine Br.mk (fun hc=>?_) fun hc=>?_<;>first|exact hc.elim|conv=>whnf)|(have hwr:=hq (by omega) (by omega);apply BD;(· exact wrap_i64 (by omega) (by omega));clear hwr;conv=>whnf)|(refine kB ?_))
 ·obtain⟨q1,q2⟩:=hq (by omega) (by omega)
  exact again.mk ⟨_,by omega,k+1,_,_,rfl,by omega,by omega,by rw[List.length_set];exact hl,rfl,rfl⟩
 ·exact⟨l,rfl,rfl,hl⟩
theorem Abk:Pz (List.replicate 14 0):=⟨by simp,by intro x hx;have:=List.eq_of_mem_replicate hx;omega⟩
def JC (n:Int):Int:=if n<0 then -1 else if 0<n then 1 else 0
theorem sign {n:Int}:Af (Ae tab) 83 [.int .i64 n] (· =.int .i64 (JC n)):=by
 refine Ac rfl rfl ?_
 (conv=>whnf);repeat' (first|(refine kA ?_;conv=>whnf)|(refine Br.mk (fun hc=>?_) fun hc=>?_<;>first|exact hc.elim|conv=>whnf)  |(refine kB ?_))
 all_goals unfold JC;first|(rw [if_pos (by omega)];rfl)|(rw [if_neg (by omega),if_pos (by omega)];rfl)|(rw [if_neg (by omega),if_neg (by omega)];rfl)
theorem Wu (n:Int):-1≤JC n∧JC n≤1:=by unfold JC;repeat' split;all_goals omega
def val:List Int→Int
 |[]=>0
 |x::l=>x+1000*val l
def pw:Nat→Int
 |0=>1
 |k+1=>1000*pw k
theorem UE:∀{l:List Int} {k:Nat} {y:Int} (h:k<l.length),val (l.set k y)=val l+(y-l[k])*pw k
 |[],k,y,h=>by simp at h
 |x::l,0,y,h=>by
  show y+1000*val l=x+1000*val l+(y-x)*1
  omega
 |x::l,k+1,y,h=>by
  have h':k<l.length:=by simpa using h
  have ih:=UE (l:=l) (k:=k) (y:=y) h'
  show x+1000*val (l.set k y)=x+1000*val l+(y-l[k])*(1000*pw k)
  rw[ih,←Int.mul_assoc,Int.mul_comm (y-l[k]) 1000,Int.mul_assoc]
  omega
theorem val_zero:∀n,val (List.replicate n 0)=0
 |0=>rfl
 |n+1=>by
  show 0+1000*val (List.replicate n 0)=0
  rw[val_zero n];rfl
theorem row_step {v x y dd c r y1 c1 m p:Int} (h1:r+1000*y1=y+x+dd*m) (h2:c=1000*c1+m):v+(r-x)*p+y1*(1000*p)+dd*c1*(1000*p)=v+y*p+dd*c*p:=by
 have e1:y1*(1000*p)=(1000*y1)*p:=by rw[← Int.mul_assoc,Int.mul_comm y1 1000]
 have e2:dd*c1*(1000*p)=(1000*(dd*c1))*p:=by rw[← Int.mul_assoc,Int.mul_comm (dd*c1) 1000]
 have e3:dd*c=1000*(dd*c1)+dd*m:=by rw[h2,Int.mul_add,←Int.mul_assoc,Int.mul_comm dd 1000,Int.mul_assoc]
 rw[e1,e2,e3]
 have e4:v+(r-x)*p+1000*y1*p+1000*(dd*c1)*p=v+((r-x)+1000*y1+1000*(dd*c1))*p:=by rw[Int.add_mul,Int.add_mul];omega
 have e5:v+y*p+(1000*(dd*c1)+dd*m)*p=v+(y+(1000*(dd*c1)+dd*m))*p:=by rw[Int.add_mul y];omega
 rw[e4,e5,show(r-x)+1000*y1+1000*(dd*c1)=y+(1000*(dd*c1)+dd*m) by omega]
theorem WI {v a b p m a1 v1:Int} (h:a=1000*a1+m) (hv:v1=v+m*b*p):v1+a1*b*(1000*p)=v+a*b*p:=by
 have e1:a1*b*(1000*p)=(1000*a1)*b*p:=by rw[← Int.mul_assoc,Int.mul_comm (a1*b) 1000,←Int.mul_assoc 1000 a1 b]
 rw[hv,e1,h,Int.add_mul,Int.add_mul]
 omega
theorem YC {i:Nat} {dd:Int} {A:Int} {l0:List Int} {Q:AQ→Env→Aj→Prop} (hi:i≤5) (hl:Pz l0) (hz:∀q (h:q<l0.length),i+7≤q→l0[q]=0) (hd:0≤dd∧dd≤999) {B C:Int} (hB:0≤C∧C≤1000000000000000)
 (hQ:∀(l':List Int) (c k y:Int),Pz l'→(∀ q (h:q<l'.length),i+8≤q→l'[q]=0)→val l'=val l0+dd*C*pw i→Q (.exit 2) [(0,.int .i64 A),(1,.int .i64 B),(5,.own 0 0 0 14),(6,.int .i64 i),(7,.int .i64 dd),(8,.int .i64 c),(9,.int .i64 y),(10,.int .i64 k),(27,.bool false)] ⟨[.arr 0 1 true true (ints l')],1⟩):
 Run (Ae tab) (.loop l84_0_h l84_0_b) [(0,.int .i64 A),(1,.int .i64 B),(5,.own 0 0 0 14),(6,.int .i64 i),(7,.int .i64 dd),(8,.int .i64 C),(9,.int .i64 0),(10,.int .i64 i)] ⟨[.arr 0 1 true true (ints l0)],1⟩ Q:=by
 obtain⟨V,hV⟩:∃V,val l0+dd*C*pw i=V:=⟨_,rfl⟩
 rw[hV]at hQ
 refine Aq (fun m env s=>∃(j k:Nat) (c y:Int) (l:List Int),m=8-j∧k=i+j∧Left j c∧Carry j y∧Pz l∧(∀ q (h:q<l.length),i+7≤q→k≤q→l[q]=0)∧val l+y*pw k+dd*c*pw k=V∧
  env=[(0,.int .i64 A),(1,.int .i64 B),(5,.own 0 0 0 14),(6,.int .i64 i),(7,.int .i64 dd),(8,.int .i64 c),(9,.int .i64 y),(10,.int .i64 k)]∧s=⟨[.arr 0 1 true true (ints l)],1⟩) ?_ _ _ _ ⟨0,i,C,0,l0,rfl,rfl,by unfold Left;omega,by unfold Carry;omega,hl,fun q h h1 h2=>hz q h h1,by rw[Int.zero_mul];omega,rfl,rfl⟩
 clear hl hz hB hV
 rintro _ _ _ ⟨j,k,c,y,l,rfl,hk,hc0,hy,hl,hz,hv,rfl,rfl⟩
 refine⟨rfl,?_⟩
 have hll:=hl.1
 have hj7:0<c∨0<y→j≤7:=by unfold Left Carry at *;omega
 have hk8:k≤i+8:=by unfold Carry at hy;omega
 have c0:=hc0.1
 have y0:=hy.1
 have c1:c<1000000000000000000:=by unfold Left at hc0;omega
 have y1:y≤999:=by unfold Carry at hy;omega
 have e2:=tdE c0
 obtain⟨m0,m1,m2⟩:∃m,dd*c.tmod 1000=m∧0≤m∧m≤998001:=⟨_,rfl,by have:=tmE c0;exact PG hd.1 hd.2 (by omega) (by omega)⟩
 obtain⟨x,hx⟩:∃x:Int,∀h:k<l.length,l[k]=x∧0≤x∧x≤999∧(j=7→x=0):=by
  by_cases h:k<l.length
  ·exact⟨l[k],fun _=>⟨rfl,(hl.2 _ (List.getElem_mem h)).1,(hl.2 _ (List.getElem_mem h)).2,fun h7=>hz k h (by omega) (by omega)⟩⟩
  ·exact⟨0,fun h'=>absurd h' h⟩
 have hkl:0<c∨0<y→k<l.length:=by intro h;have:=hj7 h;omega
 have hq:∀h:k<l.length,(y+x+dd*c.tmod 1000).tdiv 1000=(y+x+dd*c.tmod 1000) / 1000∧0≤y+x+dd*c.tmod 1000∧y+x+dd*c.tmod 1000≤2000000:=by
  intro h
  have h1:=hx h
  have h2:0≤y+x+dd*c.tmod 1000:=by omega
  exact⟨tdE h2,h2,by omega⟩
 clear hj7
 by_cases hstop:0<c∨0<y
 ·have hk1:=hkl hstop
  obtain⟨q1,q2,q3⟩:=hq hk1
  obtain⟨x0,x1,x2,x3⟩:=hx hk1
  have hv2:val (l.set k ((y+x+dd*c.tmod 1000).tmod 1000))+(y+x+dd*c.tmod 1000).tdiv 1000*pw (k+1)+dd*c.tdiv 1000*pw (k+1)=V:=by
   have e3:=tmE q2
   have e4:=tmE c0
   rw[UE hk1,←hv,x0]
   exact row_step (m:=c.tmod 1000) (by omega) (by omega)
  have fin:∀k',k'=(k:Int)+1→again (fun m env s=>∃(j k:Nat) (c y:Int) (l:List Int),m=8-j∧k=i+j∧Left j c∧Carry j y∧Pz l∧(∀ q (h:q<l.length),i+7≤q→k≤q→l[q]=0)∧val l+y*pw k+dd*c*pw k=V∧
        env=[(0,.int .i64 A),(1,.int .i64 B),(5,.own 0 0 0 14),(6,.int .i64 i),(7,.int .i64 dd),(8,.int .i64 c),(9,.int .i64 y),(10,.int .i64 k)]∧s=⟨[.arr 0 1 true true (ints l)],1⟩) (8-j)
        [(0,.int .i64 A),(1,.int .i64 B),(5,.own 0 0 0 14),(6,.int .i64 i),(7,.int .i64 dd),(8,.int .i64 (c.tdiv 1000)),(9,.int .i64 ((y+x+dd*c.tmod 1000).tdiv 1000)),(10,.int .i64 k')] ⟨[.arr 0 1 true true (ints (l.set k ((y+x+dd*c.tmod 1000).tmod 1000)))],1⟩:=by
   intro k' hk'
   have e3:=tmE q2
   refine again.mk ⟨_,?_,j+1,k+1,_,_,_,rfl,by omega,PI hc0,TL hc0 hy hstop ⟨x1,x2,x3⟩ hd,hl.set (by rw[e3];omega),fun q h h1 h2=>?_,hv2,by rw[hk'];rfl,rfl⟩
   ·have:j≤7:=by unfold Left Carry at *;omega
    omega
   ·rw[List.length_set]at h
    rw[List.getElem_set_ne (by omega)]
    exact hz q h h1 (by omega)
  clear hx hq hkl hz hl hc0 hy m2 hv hv2
  (conv=>whnf);repeat' (first|(refine kA ?_;conv=>whnf)|(refine Br.mk (fun hc=>?_) fun hc=>?_<;>first|exact hc.elim|conv=>whnf)|(rw [x0];conv=>whnf)|(refine kB ?_))
  all_goals exact fin _ rfl
 ·clear hx hq hkl
  have hv2:val l=V:=by
   obtain rfl:c=0:=by omega
   obtain rfl:y=0:=by omega
   rw[Int.mul_zero,Int.zero_mul]at hv
   omega
  clear hv
  (conv=>whnf);repeat' (first|(refine kA ?_;conv=>whnf)|(refine Br.mk (fun hc=>?_) fun hc=>?_<;>first|exact hc.elim|conv=>whnf)  |(refine kB ?_))
  exact hQ l _ _ _ hl (fun q h h1=>hz q h (by omega) (by omega)) hv2
theorem WH {a b:Int} (ha:0≤a∧a≤1000000000000000) (hb:0≤b∧b≤1000000000000000):Af (Ae tab) 84 [.int .i64 a,.int .i64 b] (fun v=>∃l,v=PD true l∧Pz l∧val l=a*b):=by
 obtain⟨V,hV⟩:∃V,a*b=V:=⟨_,rfl⟩
 rw[hV]
 refine Ac rfl rfl ?_
 (conv=>whnf);repeat' (first|(refine kA ?_;conv=>whnf)|(refine Br.mk (fun hc=>?_) fun hc=>?_<;>first|exact hc.elim|conv=>whnf)  |(refine kB ?_))
 refine Aq (fun m env s=>∃(i:Nat) (a:Int) (l:List Int),m=7-i∧i≤6∧Left i a∧Pz l∧(∀ q (h:q<l.length),i+7≤q→l[q]=0)∧val l+a*b*pw i=V∧env=[(0,.int .i64 a),(1,.int .i64 b),(5,.own 0 0 0 14),(6,.int .i64 i)]∧s=⟨[.arr 0 1 true true (ints l)],1⟩) ?_ _ _ _ ⟨0,a,List.replicate 14 0,rfl,by omega,by unfold Left;omega,⟨by simp,by intro x hx;have:=List.eq_of_mem_replicate hx;omega⟩,fun q h _=>List.getElem_replicate _,by rw[val_zero];show 0+a*b*1=V;omega,rfl,rfl⟩
 clear ha hV a
 rintro _ _ _ ⟨i,a,l,rfl,hi,hL,hl,hz,hv,rfl,rfl⟩
 refine⟨rfl,?_⟩
 have a0:=hL.1
 have e1:=tmE a0
 have e2:=tdE a0
 have a1:a<1000000000000000000:=by unfold Left at hL;omega
 have hst:∀v1,v1=val l+a.tmod 1000*b*pw i→v1+a.tdiv 1000*b*pw (i+1)=V:=fun v1 h=>by
  rw[← hv]
  exact WI (by omega) h
 have hend:¬0<a→val l=V:=fun h=>by
  obtain rfl:a=0:=by omega
  rw[Int.zero_mul,Int.zero_mul]at hv
  omega
 clear hv
 (conv=>whnf);repeat' (first|(refine kA ?_;conv=>whnf)|(refine Br.mk (fun hc=>?_) fun hc=>?_<;>first|exact hc.elim|conv=>whnf)  |(refine kB ?_))
 ·have hi5:i≤5:=by unfold Left at hL;omega
  refine YC (dd:=a.tmod 1000) hi5 hl hz (by omega) hb ?_
  intro l' c k y hl' hz' hv'
  have hv':=hst _ hv'
  (conv=>whnf);repeat' (first|(refine kA ?_;conv=>whnf)|(refine Br.mk (fun hc=>?_) fun hc=>?_<;>first|exact hc.elim|conv=>whnf)  |(refine kB ?_))
  exact again.mk ⟨_,by omega,i+1,_,l',rfl,by omega,PI hL,hl',hz',hv',rfl,rfl⟩
 ·refine need.mk ⟨rfl,by rw[lI,hl.1];omega⟩ (Dy (b:=ints l) ?_ ⟨l,rfl,hl,hend (by assumption)⟩)
  have:=@uI l
  rw[hl.1]at this
  exact this
theorem TM:∀{a b:List Int} {k:Nat} (h:k<a.length) (h':k<b.length),(∀ x∈a,0≤x∧x≤999)→(∀ x∈b,0≤x∧x≤999)→a.drop (k+1)=b.drop (k+1)→a[k]<b[k]→val a<val b
 |[],_,_,h,_,_,_,_,_=>by simp at h
 |_::_,[],_,_,h,_,_,_,_=>by simp at h
 |x::a,y::b,0,h,h',ha,hb,e,hlt=>by
  have h1:=ha x (List.mem_cons_self ..)
  have h2:=hb y (List.mem_cons_self ..)
  simp only[List.drop_succ_cons,List.drop_zero,List.getElem_cons_zero]at e hlt
  subst e
  show x+1000*val a<y+1000*val a
  omega
 |x::a,y::b,k+1,h,h',ha,hb,e,hlt=>by
  have h1:=ha x (List.mem_cons_self ..)
  have h2:=hb y (List.mem_cons_self ..)
  simp only[List.drop_succ_cons,List.getElem_cons_succ]at e hlt
  have:=TM (a:=a) (b:=b) (k:=k) (by simpa using h) (by simpa using h') (fun z hz=>ha z (List.mem_cons_of_mem _ hz)) (fun z hz=>hb z (List.mem_cons_of_mem _ hz)) e hlt
  show x+1000*val a<y+1000*val b
  omega
theorem UF {n:Int} (h:n<0):JC n=-1:=if_pos h
theorem UG {n:Int} (h:0<n):JC n=1:=by unfold JC;rw[if_neg (by omega),if_pos h]
theorem Aak {x y:List Int} (hx:Pz x) (hy:Pz y):Af (Ae tab) 101 [PD true x,PD true y] (· =.int .i64 (JC (val x-val y))):=by
 have hxl:=hx.1
 have hyl:=hy.1
 refine Ac rfl rfl ?_
 (conv=>whnf);repeat' (first|(refine kA ?_;conv=>whnf)|(refine Br.mk (fun hc=>?_) fun hc=>?_<;>first|exact hc.elim|conv=>whnf)  |(refine kB ?_))
 refine Aq (fun m env s=>∃(k:Nat) (z:Int),m=k∧z=(k:Int)-1∧k≤14∧x.drop k=y.drop k∧env=[(0,PD true x),(1,PD true y),(5,.int .i64 z)]∧s=⟨[],0⟩) ?_ _ _ _ ⟨14,_,rfl,?_,by omega,by rw[List.drop_eq_nil_of_le (by omega),List.drop_eq_nil_of_le (by omega)],rfl,rfl⟩
 rotate_left
 ·omega
 rintro k _ _ ⟨_,z,rfl,hz,hk,hd,rfl,rfl⟩
 refine⟨rfl,?_⟩
 cases k with
 |zero=>
  obtain rfl:x=y:=by simpa using hd
  (conv=>whnf);repeat' (first|(refine kA ?_;conv=>whnf)|(refine Br.mk (fun hc=>?_) fun hc=>?_<;>first|exact hc.elim|conv=>whnf)  |(refine kB ?_))
  rw[Int.sub_self];rfl
 |succ k=>
  obtain rfl:z=(k:Nat):=by omega
  have h1:x[k]'(by omega)<y[k]'(by omega)→AV.int .i64 (-1)=.int .i64 (JC (val x-val y)):=fun h=>by
   rw[UF (by have:=TM (by omega) (by omega) hx.2 hy.2 hd h;omega)]
  have h2:y[k]'(by omega)<x[k]'(by omega)→AV.int .i64 1=.int .i64 (JC (val x-val y)):=fun h=>by
   rw[UG (by have:=TM (by omega) (by omega) hy.2 hx.2 hd.symm h;omega)]
  (conv=>whnf);repeat' (first|(refine kA ?_;conv=>whnf)|(refine Br.mk (fun hc=>?_) fun hc=>?_<;>first|exact hc.elim|conv=>whnf)  |(refine kB ?_))
  ·exact h1 (by assumption)
  ·exact h2 (by assumption)
  ·refine again.mk ⟨_,by omega,k,_,rfl,rfl,by omega,?_,rfl,rfl⟩
   rw[List.drop_eq_getElem_cons (by omega),List.drop_eq_getElem_cons (l:=y) (by omega),hd,show x[k]'(by omega)=y[k]'(by omega) by omega]
theorem WJ {x y:List Int} (hx:Pz x) (hy:Pz y):Af (Ae tab) 102 [PD true x,PD true y] (fun v=>∃nn l,v=PD nn l):=by
 have hxl:=hx.1
 have hyl:=hy.1
 refine Ac rfl rfl ?_
 (conv=>whnf);repeat' (first|(refine kA ?_;conv=>whnf)|(refine Br.mk (fun hc=>?_) fun hc=>?_<;>first|exact hc.elim|conv=>whnf)  |(refine kB ?_))
 refine Aq (fun m env s=>∃(k:Nat) (c:Int) (l:List Int),m=14-k∧-1≤c∧c≤0∧l.length=14∧env=[(0,PD true x),(1,PD true y),(5,.own 0 0 0 (Int.toNat (Nat.cast x.length))),(6,.int .i64 c),(7,.int .i64 k)]∧s=⟨[.arr 0 1 true true (ints l)],1⟩) ?_ _ _ _ ⟨0,0,List.replicate x.length 0,rfl,by omega,by omega,by simp[hxl],rfl,rfl⟩
 rintro _ _ _ ⟨k,c,l,rfl,c0,c1,hl,rfl,rfl⟩
 refine⟨rfl,?_⟩
 have bx:∀h:k<x.length,0≤x[k]∧x[k]≤999:=fun h=>hx.2 _ (List.getElem_mem h)
 have bY:∀h:k<y.length,0≤y[k]∧y[k]≤999:=fun h=>hy.2 _ (List.getElem_mem h)
 have hq:∀(h:k<x.length) (h2:k<y.length),0≤x[k]∧x[k]≤999∧0≤y[k]∧y[k]≤999:=fun h h2=>⟨(bx h).1,(bx h).2,(bY h2).1,(bY h2).2⟩
 (conv=>whnf);repeat' (first|(refine kA ?_;conv=>whnf)|(refine Br.mk (fun hc=>?_) fun hc=>?_<;>first|exact hc.elim|conv=>whnf)|(have hwr:=hq (by omega) (by omega);apply BD;(· exact wrap_i64 (by omega) (by omega));clear hwr;conv=>whnf)|(refine kB ?_))
 ·exact again.mk ⟨_,by omega,k+1,_,_,rfl,by omega,by omega,by rw[List.length_set];exact hl,rfl,rfl⟩
 ·exact again.mk ⟨_,by omega,k+1,_,_,rfl,by omega,by omega,by rw[List.length_set];exact hl,rfl,rfl⟩
 ·refine⟨true,l,?_⟩
  rw[hxl]
  have:=@uI l
  rw[hl]at this
  exact congrArg (AV.sl true) this
def IY (an:Int) (x:Int) (bn:Int) (y:Int):Int:=if an=bn∨bn=0 then an else if an=0 then bn else if x=y then 0 else if y<x then an else bn
theorem Ads {an bn:Int} {x y:List Int} (hx:Pz x) (hy:Pz y):Af (Ae tab) 82 [.int .i64 an,PD true x,.int .i64 bn,PD true y] (fun v=>∃n2 l2,v=.EG [.int .i64 (IY an (val x) bn (val y)),PD n2 l2]):=by
 have key:∀k:Int,k=IY an (val x) bn (val y)→∀n2 l2,∃n3 l3,AV.EG [.int .i64 k,PD n2 l2]=.EG [.int .i64 (IY an (val x) bn (val y)),PD n3 l3]:=fun k h n2 l2=>⟨n2,l2,by rw[h]⟩
 obtain⟨z,hz⟩:∃z,JC (val x-val y)=z:=⟨_,rfl⟩
 have ho:=Aak hx hy
 rw[hz]at ho
 have z1:z=0→val x=val y:=fun h=>by subst h;unfold JC at hz;split at hz<;>(try split at hz)<;>omega
 have z2:0<z→val y<val x:=fun h=>by subst hz;unfold JC at h;split at h<;>(try split at h)<;>omega
 have z3:z≠0→¬0<z→val x<val y:=fun h h'=>by subst hz;unfold JC at h h';split at h<;>(try split at h)<;>simp_all<;>omega
 by_cases h1:an=bn
 ·have e:an=IY an (val x) bn (val y):=by unfold IY;rw[if_pos (.inl h1)]
  refine Ac rfl rfl ?_
  (conv=>whnf);repeat' (first|(refine kA ?_;conv=>whnf)|(refine Br.mk (fun hc=>?_) fun hc=>?_<;>first|exact hc.elim|conv=>whnf)|(refine Aa (plus hx hy) ?_;rintro _ ⟨nn,l,rfl⟩;conv=>whnf)|(refine kB ?_))
  all_goals first|exact key _ e _ _
 by_cases h2:bn=0
 ·have e:an=IY an (val x) bn (val y):=by unfold IY;rw[if_pos (.inr h2)]
  refine Ac rfl rfl ?_
  (conv=>whnf);repeat' (first|(refine kA ?_;conv=>whnf)|(refine Br.mk (fun hc=>?_) fun hc=>?_<;>first|exact hc.elim|conv=>whnf)|(refine Aa (plus hx hy) ?_;rintro _ ⟨nn,l,rfl⟩;conv=>whnf)|(refine kB ?_))
  all_goals first|exact key _ e _ _
 by_cases h3:an=0
 ·have e:bn=IY an (val x) bn (val y):=by unfold IY;rw[if_neg (by omega),if_pos h3]
  refine Ac rfl rfl ?_
  (conv=>whnf);repeat' (first|(refine kA ?_;conv=>whnf)|(refine Br.mk (fun hc=>?_) fun hc=>?_<;>first|exact hc.elim|conv=>whnf)  |(refine kB ?_))
  all_goals first|exact key _ e _ _
 by_cases h4:z=0
 ·have e:0=IY an (val x) bn (val y):=by unfold IY;rw[if_neg (by omega),if_neg h3,if_pos (z1 h4)]
  refine Ac rfl rfl ?_
  (conv=>whnf);repeat' (first|(refine kA ?_;conv=>whnf)|(refine Br.mk (fun hc=>?_) fun hc=>?_<;>first|exact hc.elim|conv=>whnf)|(refine Aa ho ?_;rintro _ rfl;conv=>whnf)|(refine kB ?_))
  refine FB.mono (K:=fun out s'=>∃l:List Int,out=.ok (.own 2 4 0 14)∧s'=⟨[.arr 0 1 true true (ints (List.replicate 14 0)),.arr 1 1 true true (ints (List.replicate 14 0)),.arr 4 1 true true (ints l)],5⟩∧l.length=14) (Abj (c0:=4) Abk Abk) ?_
  rintro _ _ ⟨l2,rfl,rfl,hl2⟩
  (conv=>whnf);repeat' (first|(refine kA ?_;conv=>whnf)|(refine Br.mk (fun hc=>?_) fun hc=>?_<;>first|exact hc.elim|conv=>whnf)  |(refine kB ?_))
  obtain⟨n3,l3,h⟩:=key 0 e true l2
  refine⟨n3,l3,?_⟩
  rw[← h]
  have:=@uI l2
  rw[hl2]at this
  exact congrArg (fun q=>AV.EG [.int .i64 0,.sl true q]) this
 by_cases h5:0<z
 ·have e:an=IY an (val x) bn (val y):=by
   have:=z2 h5
   unfold IY;rw[if_neg (by omega),if_neg h3,if_neg (by omega),if_pos this]
  refine Ac rfl rfl ?_
  (conv=>whnf);repeat' (first|(refine kA ?_;conv=>whnf)|(refine Br.mk (fun hc=>?_) fun hc=>?_<;>first|exact hc.elim|conv=>whnf)|(refine Aa ho ?_;rintro _ rfl;conv=>whnf)|(refine Aa (WJ hx hy) ?_;rintro _ ⟨nn,l,rfl⟩;conv=>whnf)|(refine kB ?_))
  all_goals first|exact key _ e _ _
 ·have e:bn=IY an (val x) bn (val y):=by
   have:=z3 h4 h5
   unfold IY;rw[if_neg (by omega),if_neg h3,if_neg (by omega),if_neg (by omega)]
  refine Ac rfl rfl ?_
  (conv=>whnf);repeat' (first|(refine kA ?_;conv=>whnf)|(refine Br.mk (fun hc=>?_) fun hc=>?_<;>first|exact hc.elim|conv=>whnf)|(refine Aa ho ?_;rintro _ rfl;conv=>whnf)|(refine Aa (WJ hy hx) ?_;rintro _ ⟨nn,l,rfl⟩;conv=>whnf)|(refine kB ?_))
  all_goals first|exact key _ e _ _
theorem Ik (n d:Int) (hd:1≤d):(n<0∧JC n=-1∧0<(n.natAbs:Int)*d∧n*d=-((n.natAbs:Int)*d))∨(n=0∧JC n=0∧(n.natAbs:Int)*d=0∧n*d=0)∨(0<n∧JC n=1∧0<(n.natAbs:Int)*d∧n*d=(n.natAbs:Int)*d):=by
 rcases Int.lt_trichotomy n 0 with h|h|h
 ·refine .inl ⟨h,UF h,Int.mul_pos (by omega) (by omega),?_⟩
  rw[← Int.neg_mul,show -(n.natAbs:Int)=n by omega]
 ·subst h
  exact .inr (.inl ⟨rfl,rfl,by simp,by simp⟩)
 ·refine .inr (.inr ⟨h,UG h,Int.mul_pos (by omega) (by omega),?_⟩)
  rw[show (n.natAbs:Int)=n by omega]
theorem YP {n1 d1 n2 d2:Int} (h1:1≤d1) (h2:1≤d2):IY (JC n1) ((n1.natAbs:Int)*d2) (0-JC n2) ((n2.natAbs:Int)*d1)=JC (n1*d2-n2*d1):=by
 rcases Ik n1 d2 h2 with⟨a1,a2,a3,a4⟩|⟨a1,a2,a3,a4⟩|⟨a1,a2,a3,a4⟩<;>rcases Ik n2 d1 h1 with⟨b1,b2,b3,b4⟩|⟨b1,b2,b3,b4⟩|⟨b1,b2,b3,b4⟩<;>rw[a2,b2,a4,b4]<;>generalize (n1.natAbs:Int)*d2=p at* <;>generalize (n2.natAbs:Int)*d1=q at* <;>unfold IY JC<;>repeat' split
 all_goals omega
theorem XC {n:Int} (h:IE n):Af (Ae tab) 85 [.int .i64 n] (· =.int .i64 (n.natAbs:Int)):=by
 unfold IE at h
 obtain⟨v,⟨z,rfl,z0,z1⟩,hz⟩:=(size (n:=n) (by omega) (by omega)).Yo
 rwa [show z=(n.natAbs:Int) by omega]at hz
theorem Aca {n1 d1 n2 d2:Int} (hf:VF n1 d1) (hg:VF n2 d2):Af (Ae tab) 68 [.agg [.int .i64 n1,.int .i64 d1],.agg [.int .i64 n2,.int .i64 d2]] (· =.int .i64 (JC (n1*d2-n2*d1))):=by
 have q1:=GY hf.2.2.1
 have q2:=GY hg.2.2.1
 obtain⟨f1,f2,f3,-⟩:=id hf
 obtain⟨g1,g2,g3,-⟩:=id hg
 have v1:Af (Ae tab) 81 [.agg [.int .i64 n1,.int .i64 d1]] (· =.bool true):=by have:=fvR (n:=n1) (d:=d1);rwa [decide_eq_true hf]at this
 have v2:Af (Ae tab) 81 [.agg [.int .i64 n2,.int .i64 d2]] (· =.bool true):=by have:=fvR (n:=n2) (d:=d2);rwa [decide_eq_true hg]at this
 obtain⟨_,⟨l1,rfl,x1,x2⟩,t1⟩:=(WH (a:=(n1.natAbs:Int)) (b:=d2) (by omega) (by omega)).Yo
 obtain⟨_,⟨l2,rfl,y1,y2⟩,t2⟩:=(WH (a:=(n2.natAbs:Int)) (b:=d1) (by omega) (by omega)).Yo
 have s1:=Wu n1
 have s2:=Wu n2
 have hs:=Ads (an:=JC n1) (bn:=0-JC n2) x1 y1
 rw[x2,y2,YP f1 g1]at hs
 refine Ac rfl rfl ?_
 (conv=>whnf);repeat' (first|((first|refine Aa v1 ?_|refine Aa v2 ?_|refine Aa (sign (n:=n1)) ?_|refine Aa (sign (n:=n2)) ?_|refine Aa (XC f3) ?_|refine Aa (XC g3) ?_|refine Aa t1 ?_|refine Aa t2 ?_);rintro _ rfl;conv=>whnf)|(refine Aa hs ?_;rintro _ ⟨n3,l3,rfl⟩;conv=>whnf)|(refine kA ?_;conv=>whnf)|(refine Br.mk (fun hc=>?_) fun hc=>?_<;>first|exact hc.elim|conv=>whnf)|(refine kB ?_))
 all_goals first|rfl
theorem XD {n1 d1 n2 d2:Int} (h1:1≤d1) (h2:1≤d2):∃a m,RQ (decide (n1<0) != decide (d2<0)) (n1.natAbs*d2.natAbs) (decide (0-n2<0) != decide (d1<0)) ((0-n2).natAbs*d1.natAbs)=wd a m∧m≤n1.natAbs*d2.natAbs+n2.natAbs*d1.natAbs∧ZE a m=JC (n1*d2-n2*d1):=by
 have e1:((n1.natAbs:Int)*d2)=((n1.natAbs*d2.natAbs:Nat):Int):=by rw[Int.natCast_mul,show(d2.natAbs:Int)=d2 by omega]
 have e2:((n2.natAbs:Int)*d1)=((n2.natAbs*d1.natAbs:Nat):Int):=by rw[Int.natCast_mul,show(d1.natAbs:Int)=d1 by omega]
 have k1:decide (d2<0)=false:=decide_eq_false (by omega)
 have k2:decide (d1<0)=false:=decide_eq_false (by omega)
 rw[show (0-n2).natAbs=n2.natAbs by omega,k1,k2,Bool.bne_false,Bool.bne_false]
 have h:=Ik n1 d2 h2
 have h':=Ik n2 d1 h1
 rw[e1]at h
 rw[e2]at h'
 generalize n1.natAbs*d2.natAbs=p at*
 generalize n2.natAbs*d1.natAbs=q at*
 unfold RQ
 split
 ·rename_i hh
  refine⟨_,_,rfl,Nat.le_refl _,?_⟩
  rw[decide_eq_decide]at hh
  unfold ZE JC
  simp only[decide_eq_true_eq]
  rcases h with⟨a1,a2,a3,a4⟩|⟨a1,a2,a3,a4⟩|⟨a1,a2,a3,a4⟩<;>rcases h' with⟨b1,b2,b3,b4⟩|⟨b1,b2,b3,b4⟩|⟨b1,b2,b3,b4⟩<;>rw[a4,b4]<;>repeat' split
  all_goals omega
 ·rename_i hh
  rw[decide_eq_decide]at hh
  split
  ·refine⟨_,_,rfl,by omega,?_⟩
   unfold ZE JC
   simp only[decide_eq_true_eq]
   rcases h with⟨a1,a2,a3,a4⟩|⟨a1,a2,a3,a4⟩|⟨a1,a2,a3,a4⟩<;>rcases h' with⟨b1,b2,b3,b4⟩|⟨b1,b2,b3,b4⟩|⟨b1,b2,b3,b4⟩<;>rw[a4,b4]<;>repeat' split
   all_goals omega
  ·refine⟨_,_,rfl,by omega,?_⟩
   unfold ZE JC
   simp only[decide_eq_true_eq]
   rcases h with⟨a1,a2,a3,a4⟩|⟨a1,a2,a3,a4⟩|⟨a1,a2,a3,a4⟩<;>rcases h' with⟨b1,b2,b3,b4⟩|⟨b1,b2,b3,b4⟩|⟨b1,b2,b3,b4⟩<;>rw[a4,b4]<;>repeat' split
   all_goals omega
theorem U6 {n d:Int} (h:VF n d):IE d:=by have:=h.1;have:=h.2.1;unfold IE;omega
theorem YQ {n:Int} (h:IE n):IE (0-n):=by unfold IE at *;omega
theorem AdF {n1 d1 n2 d2:Int} (hf:VF n1 d1) (hg:VF n2 d2):Af (Ae tab) 60 [.agg [.int .i64 n1,.int .i64 d1],.agg [.int .i64 n2,.int .i64 d2]] (· =.int .i64 (JC (n1*d2-n2*d1))):=by
 have v1:Af (Ae tab) 71 [.agg [.int .i64 n1,.int .i64 d1]] (· =.bool true):=by have:=fvP (n:=n1) (d:=d1);rwa [decide_eq_true hf]at this
 have v2:Af (Ae tab) 71 [.agg [.int .i64 n2,.int .i64 d2]] (· =.bool true):=by have:=fvP (n:=n2) (d:=d2);rwa [decide_eq_true hg]at this
 have q1:=GY hf.2.2.1
 have q2:=GY hg.2.2.1
 have q3:=GY (U6 hf)
 have q4:=GY (U6 hg)
 have r2:-1000000000000000≤n2∧n2≤1000000000000000:=hg.2.2.1
 have m1:=Nat.mul_le_mul q1 q4
 have m2:=Nat.mul_le_mul q2 q3
 have p1:=RP hf.2.2.1 (U6 hg)
 have p2:=RP (YQ hg.2.2.1) (U6 hf)
 obtain⟨a,m,e1,e2,e3⟩:=XD (n1:=n1) (n2:=n2) hf.1 hg.1
 have p3:=Ab1 (a:=decide (n1<0) != decide (d2<0)) (m:=n1.natAbs*d2.natAbs) (b:=decide (0-n2<0) != decide (d1<0)) (n:=(0-n2).natAbs*d1.natAbs) (by omega) (by rw[show (0-n2).natAbs=n2.natAbs by omega];omega)
 rw[e1]at p3
 have p4:=Ab2 (a:=a) (m:=m) (by omega)
 rw[e3]at p4
 refine Ac rfl rfl ?_
 (conv=>whnf);repeat' (first|((first|refine Aa v1 ?_|refine Aa v2 ?_|refine Aa p1 ?_|refine Aa p2 ?_|refine Aa p3 ?_|refine Aa p4 ?_);rintro _ rfl;conv=>whnf)|(refine kA ?_;conv=>whnf)|(refine Br.mk (fun hc=>?_) fun hc=>?_<;>first|exact hc.elim|conv=>whnf)|(refine kB ?_))
 all_goals first|rfl
theorem Aa3 {g:GV} (h:VB g):g.k≤6:=by
 obtain⟨_,h⟩:=h
 rcases h with⟨h,_⟩|⟨h,_⟩|⟨h,_⟩|⟨h,_⟩|⟨h,_⟩|⟨h,_⟩<;>omega
theorem QE {m:Nat} {g:GV} (h7:g.k≠7) (h8:g.k≠8):VV m g↔VB g:=by
 cases m with
 |zero=>exact⟨fun h=>h.elim id fun h=>absurd h.1 h7,.inl⟩
 |succ m=>exact⟨fun h=>h.elim id fun h=>h.elim (fun h=>absurd h.1 h7) fun h=>absurd h.1 h8,.inl⟩
theorem VH {m:Nat} {g:GV} (hk:g.k=7):VV m g↔g.n=0∧g.d=0∧g.s=[]∧UK g.l:=by
 have hb:¬VB g:=fun h=>by have:=Aa3 h;omega
 cases m with
 |zero=>exact⟨fun h=>h.elim (fun h=>absurd h hb) fun h=>h.2,fun h=>.inr ⟨hk,h⟩⟩
 |succ m=>exact⟨fun h=>h.elim (fun h=>absurd h hb) fun h=>h.elim (fun h=>h.2) fun h=>absurd h.1 (by omega),fun h=>.inr (.inl ⟨hk,h⟩)⟩
def VLi (m:Nat) (l:List AV):Prop:=∀i (h:i<l.length),∃x:GV,l[i]=x.av∧VV m x
theorem YO {m:Nat} {g:GV} (hk:g.k=8):VV (m+1) g↔g.n=0∧g.d=0∧g.s=[]∧g.l.length≤64∧VLi m g.l:=by
 have hb:¬VB g:=fun h=>by have:=Aa3 h;omega
 exact⟨fun h=>h.elim (fun h=>absurd h hb) fun h=>h.elim (fun h=>absurd h.1 (by omega)) fun h=>h.2,fun h=>.inr (.inr ⟨hk,h⟩)⟩
theorem Z5 {g:GV} (hk:g.k=8):¬VV 0 g:=fun h=>h.elim (fun h=>by have:=Aa3 h;omega) fun h=>by have:=h.1;omega
noncomputable instance (m:Nat) (g:GV):Decidable (VV m g):=Classical.propDecidable _
noncomputable instance (l:List AV):Decidable (UK l):=Classical.propDecidable _
noncomputable instance (m:Nat) (l:List AV):Decidable (VLi m l):=Classical.propDecidable _
theorem ET {p q:Prop} [Decidable p] [Decidable q] (h:p↔q):AV.bool (decide p)=AV.bool (decide q):=by
 by_cases hp:p
 ·rw[decide_eq_true hp,decide_eq_true (h.1 hp)]
 ·rw[decide_eq_false hp,decide_eq_false (mt h.2 hp)]
set_option maxHeartbeats 1000000 in
theorem vbP {g:GV} (hg:g.ok) (h7:g.k≠7) (h8:g.k≠8) {n:Int}:Af (Ae tab) 57 [g.av,.int .i64 n] (· =.bool (decide (VB g))):=by
 obtain⟨g1,g2,g3,g4,g5,g6,g7⟩:=hg
 unfold Ln at g4 g5
 refine Ac rfl rfl ?_
 (conv=>whnf);repeat' (first|(refine BK (inP (n:=g.n)) (fun hr=>?_) (fun hr=>?_)<;>conv=>whnf)|(refine BK (fvP (n:=g.n) (d:=g.d)) (fun hr=>?_) (fun hr=>?_)<;>conv=>whnf)|(refine Aa (ixP (l:=g.s)) ?_;rintro _ rfl;conv=>whnf)|(refine kA ?_;conv=>whnf)|(refine Br.mk (fun hc=>?_) fun hc=>?_<;>first|exact hc.elim|conv=>whnf)|(refine kB ?_))
 all_goals clear g7 g6
 all_goals first
  |exact Ai fun h=>by have:=h.1;omega
  |(refine AX ?_;unfold VB okS;rw[← FU];first|(simp_all;done)|(simp_all;omega))
  |(refine Ai ?_;unfold VB okS;rw[← FU];first|(simp_all;done)|(simp_all;omega))
  |trace_state
theorem Tj {l:List AV} {i:Nat} (hi:i<l.length) {x:GV} (e:l[i]=x.av) (hk:x.k=5+(i:Int) % 2) (hv:VB x) (h:∀j (hj:j<l.length),j<i→∃x:GV,l[j]=x.av∧x.k=5+(j:Int) % 2∧VB x):
 ∀j (hj:j<l.length),j<i+1→∃x:GV,l[j]=x.av∧x.k=5+(j:Int) % 2∧VB x:=by
 intro j hj hji
 rcases Nat.lt_or_ge j i with h1|h1
 ·exact h j hj h1
 ·obtain rfl:j=i:=by omega
  exact⟨x,e,hk,hv⟩
set_option maxHeartbeats 1000000 in
theorem Acu {l:List AV} {nn:Bool} (hl:l.length<2^63) (h:∀x∈l,Like Tryz.prog 57 x):Af (Ae tab) 74 [.sl nn l] (· =.bool (decide (UK l))):=by
 have htm:(l.length:Int).tmod 2=(l.length:Int) % 2:=Int.tmod_eq_emod_of_nonneg (by omega)
 by_cases hlen:l.length % 2=1∧l.length≤25
 ·obtain⟨hl1,hl2⟩:=hlen
  refine Ac rfl rfl ?_
  (conv=>whnf);repeat' (first  |(refine kA ?_;conv=>whnf)|(refine Br.mk (fun hc=>?_) fun hc=>?_<;>first|exact hc.elim|conv=>whnf)|(refine kB ?_))
  refine Aq (fun m env s=>∃i c:Nat,m=l.length-i∧i≤l.length∧(∀ j (hj:j<l.length),j<i→∃x:GV,l[j]=x.av∧x.k=5+(j:Int) % 2∧VB x)∧env=[(15,.sl nn l),(16,.int .i64 l.length),(17,.int .i64 i)]∧s=⟨[],c⟩) ?_ _ _ _ ⟨0,_,rfl,by omega,fun j _ hj=>absurd hj (by omega),rfl,rfl⟩
  rintro _ _ _ ⟨i,c,rfl,hi,hx,rfl,rfl⟩
  refine⟨rfl,?_⟩
  by_cases hlt:i<l.length
  ·obtain⟨gx,hgx⟩:=H9 h i
   obtain⟨hn,he,hok⟩:=hgx hlt
   have hno:¬(gx.k=5+(i:Int) % 2∧VB gx)→¬UK l:=fun hh hv=>by
        obtain⟨x,e,hx2⟩:=hv.2.2 i hlt
        rw[he]at e
        rw[GV.FC e]at hh
        exact hh hx2
   have h2:(i:Int).tmod 2=(i:Int) % 2:=Int.tmod_eq_emod_of_nonneg (by omega)
   have AaK:nth [AV.int .i64 5,AV.int .i64 6] (Int.toNat ((i:Int).tmod 2))=some (.int .i64 (5+(i:Int) % 2)):=by
        rw[h2]
        rcases Nat.mod_two_eq_zero_or_one i with hm|hm
        ·rw[show (i:Int) % 2=0 by omega];rfl
        ·rw[show (i:Int) % 2=1 by omega];rfl
   (conv=>whnf);repeat' (first|(apply Bq;(· first|exact hn|exact AaK);conv=>whnf)|(refine BK (vbP (g:=gx) hok (by omega) (by omega) (n:=0)) (fun hr=>?_) (fun hr=>?_)<;>conv=>whnf)|(refine kA ?_;conv=>whnf)|(refine Br.mk (fun hc=>?_) fun hc=>?_<;>first|exact hc.elim|conv=>whnf)|(refine kB ?_))
   all_goals first
        |exact again.mk ⟨_,by omega,i+1,_,rfl,by omega,Tj hlt he (by omega) hr hx,rfl,rfl⟩
        |exact Ai (hno fun hh=>by have:=hh.1;omega)
        |exact Ai (hno fun hh=>hr hh.2)
        |trace_state
  ·rw[show i=l.length by omega]at hx
   (conv=>whnf);repeat' (first  |(refine kA ?_;conv=>whnf)|(refine Br.mk (fun hc=>?_) fun hc=>?_<;>first|exact hc.elim|conv=>whnf)|(refine kB ?_))
   exact AX ⟨hl1,hl2,fun j hj=>hx j hj hj⟩
 ·have hno:¬UK l:=fun hv=>hlen ⟨hv.1,hv.2.1⟩
  refine Ac rfl rfl ?_
  (conv=>whnf);repeat' (first  |(refine kA ?_;conv=>whnf)|(refine Br.mk (fun hc=>?_) fun hc=>?_<;>first|exact hc.elim|conv=>whnf)|(refine kB ?_))
  all_goals first|exact Ai hno|trace_state
theorem v7 {g:GV} (hg:g.ok) (hk:g.k=7) {n:Int}:Af (Ae tab) 57 [g.av,.int .i64 n] (· =.bool (decide (g.n=0∧g.d=0∧g.s=[]∧UK g.l))):=by
 obtain⟨g1,g2,g3,g4,g5,g6,g7⟩:=hg
 unfold Ln at g4 g5
 refine Ac rfl rfl ?_
 (conv=>whnf);repeat' (first|(refine BK (Acu (l:=g.l) (nn:=g.nn) g5 g7) (fun hr=>?_) (fun hr=>?_)<;>conv=>whnf)|(refine kA ?_;conv=>whnf)|(refine Br.mk (fun hc=>?_) fun hc=>?_<;>first|exact hc.elim|conv=>whnf)|(refine kB ?_))
 all_goals first
  |exact AX ⟨by omega,by omega,by assumption,hr⟩
  |exact Ai fun h=>hr h.2.2.2
  |exact Ai fun h=>by have:=h.1;omega
  |exact Ai fun h=>by have:=h.2.1;omega
  |exact Ai fun h=>absurd h.2.2.1 (by assumption)
  |trace_state
theorem Vh {m:Nat} {l:List AV} {i:Nat} (hi:i<l.length) {x:GV} (e:l[i]=x.av) (hv:VV m x) (h:∀j (hj:j<l.length),j<i→∃x:GV,l[j]=x.av∧VV m x):
 ∀j (hj:j<l.length),j<i+1→∃x:GV,l[j]=x.av∧VV m x:=by
 intro j hj hji
 rcases Nat.lt_or_ge j i with h1|h1
 ·exact h j hj h1
 ·obtain rfl:j=i:=by omega
  exact⟨x,e,hv⟩
set_option maxHeartbeats 1000000 in
theorem v8 {g:GV} (hg:g.ok) (hk:g.k=8) {z:Int} (hz:0≤z∧z<8) {m:Nat} (ih:∀{x:GV},x.ok→Af (Ae tab) 57 [x.av,.int .i64 (z+1)] (· =.bool (decide (VV m x)))):
 Af (Ae tab) 57 [g.av,.int .i64 z] (· =.bool (decide (g.n=0∧g.d=0∧g.s=[]∧g.l.length≤64∧VLi m g.l))):=by
 obtain⟨g1,g2,g3,g4,g5,g6,g7⟩:=hg
 unfold Ln at g4 g5
 refine Ac rfl rfl ?_
 (conv=>whnf);repeat' (first  |(refine kA ?_;conv=>whnf)|(refine Br.mk (fun hc=>?_) fun hc=>?_<;>first|exact hc.elim|conv=>whnf)|(refine kB ?_))
 all_goals first
  |exact Ai fun h=>by have:=h.1;omega
  |exact Ai fun h=>by have:=h.2.1;omega
  |exact Ai fun h=>by have:=h.2.2.2.1;omega
  |exact Ai fun h=>absurd h.2.2.1 (by assumption)
  |skip
 have hs:g.s=[]:=by assumption
 have hn0:g.n=0:=by omega
 have hd0:g.d=0:=by omega
 have hl0:g.l.length≤64:=by omega
 refine Aq (fun mm env s=>∃i c:Nat,mm=g.l.length-i∧i≤g.l.length∧(∀ j (hj:j<g.l.length),j<i→∃x:GV,g.l[j]=x.av∧VV m x)∧env=[(1,.int .i64 z),(120,.sl g.nn g.l),(121,.int .i64 g.l.length),(122,.int .i64 i)]∧s=⟨[.arr 0 5 true true [g.av]],c⟩) ?_ _ _ _ ⟨0,_,rfl,by omega,fun j _ hj=>absurd hj (by omega),rfl,rfl⟩
 rintro _ _ _ ⟨i,c,rfl,hi,hx,rfl,rfl⟩
 refine⟨rfl,?_⟩
 by_cases hlt:i<g.l.length
 ·obtain⟨gx,hgx⟩:=H9 g7 i
  obtain⟨hn,he,hok⟩:=hgx hlt
  (conv=>whnf);repeat' (first|(apply Bq;(· exact hn);conv=>whnf)|(refine BK (ih hok) (fun hr=>?_) (fun hr=>?_)<;>conv=>whnf)|(refine kA ?_;conv=>whnf)|(refine Br.mk (fun hc=>?_) fun hc=>?_<;>first|exact hc.elim|conv=>whnf)|(refine kB ?_))
  all_goals first
   |exact again.mk ⟨_,by omega,i+1,_,rfl,by omega,Vh hlt he hr hx,rfl,rfl⟩
   |exact Ai fun hh=>by
     obtain⟨x,e,hv⟩:=hh.2.2.2.2 i hlt
     rw[he]at e
     rw[GV.FC e]at hr
     exact hr hv
   |trace_state
 ·rw[show i=g.l.length by omega]at hx
  (conv=>whnf);repeat' (first  |(refine kA ?_;conv=>whnf)|(refine Br.mk (fun hc=>?_) fun hc=>?_<;>first|exact hc.elim|conv=>whnf)|(refine kB ?_))
  exact AX ⟨hn0,hd0,hs,hl0,fun j hj=>hx j hj hj⟩
theorem Aem {g:GV} (hg:g.ok) (hk:g.k=8):Af (Ae tab) 57 [g.av,.int .i64 8] (· =.bool false):=by
 obtain⟨g1,g2,g3,g4,g5,g6,g7⟩:=hg
 unfold Ln at g4 g5
 refine Ac rfl rfl ?_
 (conv=>whnf);repeat' (first  |(refine kA ?_;conv=>whnf)|(refine Br.mk (fun hc=>?_) fun hc=>?_<;>first|exact hc.elim|conv=>whnf)|(refine kB ?_))
 all_goals rfl
theorem Aa4:∀(m:Nat),m≤8→∀{g:GV},g.ok→Af (Ae tab) 57 [g.av,.int .i64 (8-(m:Int))] (· =.bool (decide (VV m g))):=by
 intro m
 induction m with
 |zero=>
  intro _ g hg
  by_cases h7:g.k=7
  ·rw[show AV.bool (decide (VV 0 g))=_ from ET (VH h7)]
   exact v7 hg h7
  by_cases h8:g.k=8
  ·rw[decide_eq_false (Z5 h8)]
   exact Aem hg h8
  rw[show AV.bool (decide (VV 0 g))=AV.bool (decide (VB g)) from ET (QE h7 h8)]
  exact vbP hg h7 h8
 |succ m ih=>
  intro hm g hg
  by_cases h7:g.k=7
  ·rw[show AV.bool (decide (VV (m+1) g))=_ from ET (VH h7)]
   exact v7 hg h7
  by_cases h8:g.k=8
  ·rw[show AV.bool (decide (VV (m+1) g))=_ from ET (YO h8)]
   exact v8 hg h8 (by omega) fun{x} hx=>by
        rw[show (8-((m+1:Nat):Int))+1=8-(m:Int) by omega]
        exact ih (by omega) hx
  rw[show AV.bool (decide (VV (m+1) g))=AV.bool (decide (VB g)) from ET (QE h7 h8)]
  exact vbP hg h7 h8
theorem X9 {g:GV} (hg:g.ok):Af (Ae tab) 48 [g.av] (· =.bool (decide (VV 8 g))):=by
 have h:=Aa4 8 (by omega) hg
 rw[show (8-((8:Nat):Int))=0 by omega]at h
 refine Ac rfl rfl ?_
 (conv=>whnf);repeat' (first|(refine BK h (fun hr=>?_) (fun hr=>?_)<;>conv=>whnf)|(refine kA ?_;conv=>whnf)|(refine Br.mk (fun hc=>?_) fun hc=>?_<;>first|exact hc.elim|conv=>whnf)|(refine kB ?_))
 all_goals first|exact AX hr|exact Ai hr
def Nb (v:GV) (n d s l:Bool):Prop:=(n=true∨v.n=0)∧(d=true∨v.d=0)∧(s=true∨v.s=[])∧(l=true∨v.l.length=0)
instance (v:GV) (n d s l:Bool):Decidable (Nb v n d s l):=by unfold Nb;infer_instance
theorem Yd {v:GV} {n d s l:Bool} (hl:v.l.length<2^63):Af (Ae tab) 94 [v.av,.bool n,.bool d,.bool s,.bool l] (· =.bool (decide (Nb v n d s l))):=by
 cases n<;>cases d<;>cases s<;>cases l
 all_goals
  refine Ac rfl rfl ?_
  (conv=>whnf);repeat' (first|(refine kA ?_;conv=>whnf)|(refine Br.mk (fun hc=>?_) fun hc=>?_<;>first|exact hc.elim|conv=>whnf)  |(refine kB ?_))
 all_goals first
  |(refine AX ?_;unfold Nb;refine⟨?_,?_,?_,?_⟩<;>first|(left;rfl)|(right;first|assumption|omega))
  |(refine Ai ?_;unfold Nb;rintro⟨h1,h2,h3,h4⟩;simp only[Bool.false_eq_true,false_or,true_or]at h1 h2 h3 h4;first|contradiction|omega)
theorem Aea {s:List UInt8} (hl:s.length<2^63):Af (Ae tab) 96 [.str s] (· =.bool (decide (okS s))):=by
 refine Ac rfl rfl ?_
 (conv=>whnf);repeat' (first|(refine kA ?_;conv=>whnf)|(refine Br.mk (fun hc=>?_) fun hc=>?_<;>first|exact hc.elim|conv=>whnf)  |(refine kB ?_))
 refine Aq (fun m env s'=>∃i:Nat,m=s.length-i∧env=[(0,.str s),(3,.int .i64 i)]∧s'=⟨[],0⟩∧∀c∈s.take i,J3 c=false) ?_ _ _ _ ⟨0,rfl,rfl,rfl,by simp⟩
 rintro _ _ _ ⟨i,rfl,rfl,rfl,hx⟩
 refine⟨rfl,?_⟩
 (conv=>whnf);repeat' (first|(refine kA ?_;conv=>whnf)|(refine Br.mk (fun hc=>?_) fun hc=>?_<;>first|exact hc.elim|conv=>whnf)  |(refine kB ?_))
 all_goals first
  |exact again.mk ⟨_,by omega,i+1,rfl,rfl,rfl,BH (by omega) hx (by unfold J3;simp;omega)⟩
  |(refine Ai fun h=>?_;have:=h.2 s[i] (List.getElem_mem (by omega));unfold J3 at this;simp at this;omega)
  |(rw [List.take_of_length_le (by omega)]at hx;exact AX ⟨by omega,hx⟩)
  |(refine Ai fun h=>?_;have:=h.1;omega)
end AI
end Go.Proofs.YtegcpbncohoflaaGreatDoor
