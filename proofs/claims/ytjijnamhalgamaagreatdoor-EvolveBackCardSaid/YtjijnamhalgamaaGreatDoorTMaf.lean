/- The reference's wide numbers: what their product and their order are. Fractions compared: the program's way and the reference's. Valid values, exactly: the program's. The reference's bare values and strings. Valid values, exactly: the reference's. Numbers among values. -/
import Derived.Test.YtjijnamhalgamaaGreatDoorTMae
import Derived.Test.YtjijnamhalgamaaGreatDoorTMad
import Derived.Test.YtjijnamhalgamaaGreatDoorBMaa
set_option linter.unusedVariables false
set_option maxRecDepth 4000
namespace Go.Proofs.YtjijnamhalgamaaGreatDoor
namespace AI
theorem AgC {i:Nat} {dd:Int} {A:Int} {l0:List Int} {Q:AQ→Env→Am→Prop} (hi:i≤5) (hl:Vb l0) (hz:∀q (h:q<l0.length),i+7≤q→l0[q]=0) (hd:0≤dd∧dd≤999) {B C:Int} (hB:0≤C∧C≤1000000000000000)
 (hQ:∀(l':List Int) (c k y:Int),Vb l'→(∀ q (h:q<l'.length),i+8≤q→l'[q]=0)→val l'=val l0+dd*C*pw i→Q (.exit 2) [(0,.int .i64 A),(1,.int .i64 B),(5,.own 0 0 0 14),(6,.int .i64 i),(7,.int .i64 dd),(8,.int .i64 c),(9,.int .i64 y),(10,.int .i64 k),(27,.bool false)] ⟨[.arr 0 1 true true (ints l')],1⟩):
 Run (Ad tab) (.loop l160_0_h l160_0_b) [(0,.int .i64 A),(1,.int .i64 B),(5,.own 0 0 0 14),(6,.int .i64 i),(7,.int .i64 dd),(8,.int .i64 C),(9,.int .i64 0),(10,.int .i64 i)] ⟨[.arr 0 1 true true (ints l0)],1⟩ Q:=by
 obtain⟨V,hV⟩:∃V,val l0+dd*C*pw i=V:=⟨_,rfl⟩
 rw[hV]at hQ
 refine Ag (fun m env s=>∃(j k:Nat) (c y:Int) (l:List Int),m=8-j∧k=i+j∧Left j c∧Carry j y∧Vb l∧(∀ q (h:q<l.length),i+7≤q→k≤q→l[q]=0)∧val l+y*pw k+dd*c*pw k=V∧
  env=[(0,.int .i64 A),(1,.int .i64 B),(5,.own 0 0 0 14),(6,.int .i64 i),(7,.int .i64 dd),(8,.int .i64 c),(9,.int .i64 y),(10,.int .i64 k)]∧s=⟨[.arr 0 1 true true (ints l)],1⟩) ?_ _ _ _ ⟨0,i,C,0,l0,rfl,rfl,by unfold Left;omega,by unfold Carry;omega,hl,fun q h h1 h2=>hz q h h1,by rw[Int.zero_mul];omega,rfl,rfl⟩
 clear hl hz hB hV
 rintro _ _ _ ⟨j,k,c,y,l,rfl,hk,hc0,hy,hl,hz,hv,rfl,rfl⟩
 refine⟨rfl,?_⟩
 have hll:=hl.1
 have hj7:0<c∨0<y→j≤7:=by unfold Left Carry at *;omega
 have hk8:k≤i+8:=by unfold Carry at hy;omega
 have c0:=hc0.1
 have y0:=hy.1
 have c1:c<1000000000000000000:=by unfold Left at hc0;omega
 have y1:y≤999:=by unfold Carry at hy;omega
 have e2:=tdE c0
 obtain⟨m0,m1,m2⟩:∃m,dd*c.tmod 1000=m∧0≤m∧m≤998001:=⟨_,rfl,by have:=tmE c0;exact Vd hd.1 hd.2 (by omega) (by omega)⟩
 obtain⟨x,hx⟩:∃x:Int,∀h:k<l.length,l[k]=x∧0≤x∧x≤999∧(j=7→x=0):=by
  by_cases h:k<l.length
  ·exact⟨l[k],fun _=>⟨rfl,(hl.2 _ (List.getElem_mem h)).1,(hl.2 _ (List.getElem_mem h)).2,fun h7=>hz k h (by omega) (by omega)⟩⟩
  ·exact⟨0,fun h'=>absurd h' h⟩
 have hkl:0<c∨0<y→k<l.length:=by intro h;have:=hj7 h;omega
 have hq:∀h:k<l.length,(y+x+dd*c.tmod 1000).tdiv 1000=(y+x+dd*c.tmod 1000) / 1000∧0≤y+x+dd*c.tmod 1000∧y+x+dd*c.tmod 1000≤2000000:=by
  intro h
  have h1:=hx h
  have h2:0≤y+x+dd*c.tmod 1000:=by omega
  exact⟨tdE h2,h2,by omega⟩
 clear hj7
 by_cases hstop:0<c∨0<y
 ·have hk1:=hkl hstop
  obtain⟨q1,q2,q3⟩:=hq hk1
  obtain⟨x0,x1,x2,x3⟩:=hx hk1
  have hv2:val (l.set k ((y+x+dd*c.tmod 1000).tmod 1000))+(y+x+dd*c.tmod 1000).tdiv 1000*pw (k+1)+dd*c.tdiv 1000*pw (k+1)=V:=by
   have e3:=tmE q2
   have e4:=tmE c0
   rw[AaH hk1,←hv,x0]
   exact row_step (m:=c.tmod 1000) (by omega) (by omega)
  have fin:∀k',k'=(k:Int)+1→again (fun m env s=>∃(j k:Nat) (c y:Int) (l:List Int),m=8-j∧k=i+j∧Left j c∧Carry j y∧Vb l∧(∀ q (h:q<l.length),i+7≤q→k≤q→l[q]=0)∧val l+y*pw k+dd*c*pw k=V∧
        env=[(0,.int .i64 A),(1,.int .i64 B),(5,.own 0 0 0 14),(6,.int .i64 i),(7,.int .i64 dd),(8,.int .i64 c),(9,.int .i64 y),(10,.int .i64 k)]∧s=⟨[.arr 0 1 true true (ints l)],1⟩) (8-j)
        [(0,.int .i64 A),(1,.int .i64 B),(5,.own 0 0 0 14),(6,.int .i64 i),(7,.int .i64 dd),(8,.int .i64 (c.tdiv 1000)),(9,.int .i64 ((y+x+dd*c.tmod 1000).tdiv 1000)),(10,.int .i64 k')] ⟨[.arr 0 1 true true (ints (l.set k ((y+x+dd*c.tmod 1000).tmod 1000)))],1⟩:=by
   intro k' hk'
   have e3:=tmE q2
   refine again.mk ⟨_,?_,j+1,k+1,_,_,_,rfl,by omega,Ve hc0,Zo hc0 hy hstop ⟨x1,x2,x3⟩ hd,hl.set (by rw[e3];omega),fun q h h1 h2=>?_,hv2,by rw[hk'];rfl,rfl⟩
   ·have:j≤7:=by unfold Left Carry at *;omega
    omega
   ·rw[List.length_set]at h
    rw[List.getElem_set_ne (by omega)]
    exact hz q h h1 (by omega)
  clear hx hq hkl hz hl hc0 hy m2 hv hv2
  (conv=>whnf);repeat' (first|((first|refine kA ?_|(apply Br.mk<;>intro hc)|rw[x0])<;>first|exact hc.elim|conv=>whnf)|refine kB ?_)
  all_goals exact fin _ rfl
 ·clear hx hq hkl
  have hv2:val l=V:=by
   obtain rfl:c=0:=by omega
   obtain rfl:y=0:=by omega
   rw[Int.mul_zero,Int.zero_mul]at hv
   omega
  clear hv
  (conv=>whnf);repeat' (first|((first|refine kA ?_|(apply Br.mk<;>intro hc))<;>first|exact hc.elim|conv=>whnf)|refine kB ?_)
  exact hQ l _ _ _ hl (fun q h h1=>hz q h (by omega) (by omega)) hv2
theorem AdY {a b:Int} (ha:0≤a∧a≤1000000000000000) (hb:0≤b∧b≤1000000000000000):Ae (Ad tab) 160 [.int .i64 a,.int .i64 b] (fun v=>∃l,v=U6 true l∧Vb l∧val l=a*b):=by
 obtain⟨V,hV⟩:∃V,a*b=V:=⟨_,rfl⟩
 rw[hV]
 refine Ac rfl rfl ?_
 (conv=>whnf);repeat' (first|((first|refine kA ?_|(apply Br.mk<;>intro hc))<;>first|exact hc.elim|conv=>whnf)|refine kB ?_)
 refine Ag (fun m env s=>∃(i:Nat) (a:Int) (l:List Int),m=7-i∧i≤6∧Left i a∧Vb l∧(∀ q (h:q<l.length),i+7≤q→l[q]=0)∧val l+a*b*pw i=V∧env=[(0,.int .i64 a),(1,.int .i64 b),(5,.own 0 0 0 14),(6,.int .i64 i)]∧s=⟨[.arr 0 1 true true (ints l)],1⟩) ?_ _ _ _ ⟨0,a,List.replicate 14 0,rfl,by omega,by unfold Left;omega,⟨by simp,by intro x hx;have:=List.eq_of_mem_replicate hx;omega⟩,fun q h _=>List.getElem_replicate _,by rw[val_zero];show 0+a*b*1=V;omega,rfl,rfl⟩
 clear ha hV a
 rintro _ _ _ ⟨i,a,l,rfl,hi,hL,hl,hz,hv,rfl,rfl⟩
 refine⟨rfl,?_⟩
 have a0:=hL.1
 have e1:=tmE a0
 have e2:=tdE a0
 have a1:a<1000000000000000000:=by unfold Left at hL;omega
 have hst:∀v1,v1=val l+a.tmod 1000*b*pw i→v1+a.tdiv 1000*b*pw (i+1)=V:=fun v1 h=>by
  rw[← hv]
  exact AdZ (by omega) h
 have hend:¬0<a→val l=V:=fun h=>by
  obtain rfl:a=0:=by omega
  rw[Int.zero_mul,Int.zero_mul]at hv
  omega
 clear hv
 (conv=>whnf);repeat' (first|((first|refine kA ?_|(apply Br.mk<;>intro hc))<;>first|exact hc.elim|conv=>whnf)|refine kB ?_)
 ·have hi5:i≤5:=by unfold Left at hL;omega
  refine AgC (dd:=a.tmod 1000) hi5 hl hz (by omega) hb ?_
  intro l' c k y hl' hz' hv'
  have hv':=hst _ hv'
  (conv=>whnf);repeat' (first|((first|refine kA ?_|(apply Br.mk<;>intro hc))<;>first|exact hc.elim|conv=>whnf)|refine kB ?_)
  exact again.mk ⟨_,by omega,i+1,_,l',rfl,by omega,Ve hL,hl',hz',hv',rfl,rfl⟩
 ·refine need.mk ⟨rfl,by rw[lI,hl.1];omega⟩ (Cb (b:=ints l) ?_ ⟨l,rfl,hl,hend ‹_›⟩)
  have:=@uI l
  rw[hl.1]at this
  exact this
theorem Zp:∀{a b:List Int} {k:Nat} (h:k<a.length) (h':k<b.length),(∀ x∈a,0≤x∧x≤999)→(∀ x∈b,0≤x∧x≤999)→a.drop (k+1)=b.drop (k+1)→a[k]<b[k]→val a<val b
 |[],_,_,h,_,_,_,_,_=>by simp at h
 |_::_,[],_,_,h,_,_,_,_=>by simp at h
 |x::a,y::b,0,h,h',ha,hb,e,hlt=>by
  have h1:=ha x (List.mem_cons_self ..)
  have h2:=hb y (List.mem_cons_self ..)
  simp only[List.drop_succ_cons,List.drop_zero,List.getElem_cons_zero]at e hlt
  subst e
  show x+1000*val a<y+1000*val a
  omega
 |x::a,y::b,k+1,h,h',ha,hb,e,hlt=>by
  have h1:=ha x (List.mem_cons_self ..)
  have h2:=hb y (List.mem_cons_self ..)
  simp only[List.drop_succ_cons,List.getElem_cons_succ]at e hlt
  have:=Zp (a:=a) (b:=b) (k:=k) (by simpa using h) (by simpa using h') (fun z hz=>ha z (List.mem_cons_of_mem _ hz)) (fun z hz=>hb z (List.mem_cons_of_mem _ hz)) e hlt
  show x+1000*val a<y+1000*val b
  omega
theorem AaI {n:Int} (h:n<0):Qi n=-1:=if_pos h
theorem AaJ {n:Int} (h:0<n):Qi n=1:=by unfold Qi;rw[if_neg (by omega),if_pos h]
theorem AjW {x y:List Int} (hx:Vb x) (hy:Vb y):Ae (Ad tab) 232 [U6 true x,U6 true y] (· =.int .i64 (Qi (val x-val y))):=by
 have hxl:=hx.1
 have hyl:=hy.1
 refine Ac rfl rfl ?_
 (conv=>whnf);repeat' (first|((first|refine kA ?_|(apply Br.mk<;>intro hc))<;>first|exact hc.elim|conv=>whnf)|refine kB ?_)
 refine Ag (fun m env s=>∃(k:Nat) (z:Int),m=k∧z=(k:Int)-1∧k≤14∧x.drop k=y.drop k∧env=[(0,U6 true x),(1,U6 true y),(5,.int .i64 z)]∧s=⟨[],0⟩) ?_ _ _ _ ⟨14,_,rfl,?_,by omega,by rw[List.drop_eq_nil_of_le (by omega),List.drop_eq_nil_of_le (by omega)],rfl,rfl⟩
 rotate_left
 ·omega
 rintro k _ _ ⟨_,z,rfl,hz,hk,hd,rfl,rfl⟩
 refine⟨rfl,?_⟩
 cases k with
 |zero=>
  obtain rfl:x=y:=by simpa using hd
  (conv=>whnf);repeat' (first|((first|refine kA ?_|(apply Br.mk<;>intro hc))<;>first|exact hc.elim|conv=>whnf)|refine kB ?_)
  rw[Int.sub_self];rfl
 |succ k=>
  obtain rfl:z=(k:Nat):=by omega
  have h1:x[k]'(by omega)<y[k]'(by omega)→AV.int .i64 (-1)=.int .i64 (Qi (val x-val y)):=fun h=>by
   rw[AaI (by have:=Zp (by omega) (by omega) hx.2 hy.2 hd h;omega)]
  have h2:y[k]'(by omega)<x[k]'(by omega)→AV.int .i64 1=.int .i64 (Qi (val x-val y)):=fun h=>by
   rw[AaJ (by have:=Zp (by omega) (by omega) hy.2 hx.2 hd.symm h;omega)]
  (conv=>whnf);repeat' (first|((first|refine kA ?_|(apply Br.mk<;>intro hc))<;>first|exact hc.elim|conv=>whnf)|refine kB ?_)
  ·exact h1 ‹_›
  ·exact h2 ‹_›
  ·refine again.mk ⟨_,by omega,k,_,rfl,rfl,by omega,?_,rfl,rfl⟩
   rw[List.drop_eq_getElem_cons (by omega),List.drop_eq_getElem_cons (l:=y) (by omega),hd,show x[k]'(by omega)=y[k]'(by omega) by omega]
theorem Ad0 {x y:List Int} (hx:Vb x) (hy:Vb y):Ae (Ad tab) 233 [U6 true x,U6 true y] (fun v=>∃nn l,v=U6 nn l):=by
 have hxl:=hx.1
 have hyl:=hy.1
 refine Ac rfl rfl ?_
 (conv=>whnf);repeat' (first|((first|refine kA ?_|(apply Br.mk<;>intro hc))<;>first|exact hc.elim|conv=>whnf)|refine kB ?_)
 refine Ag (fun m env s=>∃(k:Nat) (c:Int) (l:List Int),m=14-k∧-1≤c∧c≤0∧l.length=14∧env=[(0,U6 true x),(1,U6 true y),(5,.own 0 0 0 (Int.toNat (Nat.cast x.length))),(6,.int .i64 c),(7,.int .i64 k)]∧s=⟨[.arr 0 1 true true (ints l)],1⟩) ?_ _ _ _ ⟨0,0,List.replicate x.length 0,rfl,by omega,by omega,by simp[hxl],rfl,rfl⟩
 rintro _ _ _ ⟨k,c,l,rfl,c0,c1,hl,rfl,rfl⟩
 refine⟨rfl,?_⟩
 have bx:∀h:k<x.length,0≤x[k]∧x[k]≤999:=fun h=>hx.2 _ (List.getElem_mem h)
 have bY:∀h:k<y.length,0≤y[k]∧y[k]≤999:=fun h=>hy.2 _ (List.getElem_mem h)
 have hq:∀(h:k<x.length) (h2:k<y.length),0≤x[k]∧x[k]≤999∧0≤y[k]∧y[k]≤999:=fun h h2=>⟨(bx h).1,(bx h).2,(bY h2).1,(bY h2).2⟩
 (conv=>whnf);repeat' (first|((first|refine kA ?_|(apply Br.mk<;>intro hc)|(have hwr:=hq (by omega) (by omega);apply BI;(· exact wrap_i64 (by omega) (by omega));clear hwr))<;>first|exact hc.elim|conv=>whnf)|refine kB ?_)
 ·exact again.mk ⟨_,by omega,k+1,_,_,rfl,by omega,by omega,by rw[List.length_set];exact hl,rfl,rfl⟩
 ·exact again.mk ⟨_,by omega,k+1,_,_,rfl,by omega,by omega,by rw[List.length_set];exact hl,rfl,rfl⟩
 ·refine⟨true,l,?_⟩
  rw[hxl]
  have:=@uI l
  rw[hl]at this
  exact congrArg (AV.sl true) this
def MF (an:Int) (x:Int) (bn:Int) (y:Int):Int:=if an=bn∨bn=0 then an else if an=0 then bn else if x=y then 0 else if y<x then an else bn
theorem Aou {an bn:Int} {x y:List Int} (hx:Vb x) (hy:Vb y):Ae (Ad tab) 158 [.int .i64 an,U6 true x,.int .i64 bn,U6 true y] (fun v=>∃n2 l2,v=.BD [.int .i64 (MF an (val x) bn (val y)),U6 n2 l2]):=by
 have key:∀k:Int,k=MF an (val x) bn (val y)→∀n2 l2,∃n3 l3,AV.BD [.int .i64 k,U6 n2 l2]=.BD [.int .i64 (MF an (val x) bn (val y)),U6 n3 l3]:=fun k h n2 l2=>⟨n2,l2,by rw[h]⟩
 obtain⟨z,hz⟩:∃z,Qi (val x-val y)=z:=⟨_,rfl⟩
 have ho:=AjW hx hy
 rw[hz]at ho
 have z1:z=0→val x=val y:=fun h=>by subst h;unfold Qi at hz;split at hz<;>(try split at hz)<;>omega
 have z2:0<z→val y<val x:=fun h=>by subst hz;unfold Qi at h;split at h<;>(try split at h)<;>omega
 have z3:z≠0→¬0<z→val x<val y:=fun h h'=>by subst hz;unfold Qi at h h';split at h<;>(try split at h)<;>simp_all<;>omega
 by_cases h1:an=bn
 ·have e:an=MF an (val x) bn (val y):=by unfold MF;rw[if_pos (.inl h1)]
  refine Ac rfl rfl ?_
  (conv=>whnf);repeat' (first|((first|refine kA ?_|(apply Br.mk<;>intro hc)|(refine Aa (plus hx hy) ?_;rintro _ ⟨nn,l,rfl⟩))<;>first|exact hc.elim|conv=>whnf)|refine kB ?_)
  all_goals first|exact key _ e _ _
 by_cases h2:bn=0
 ·have e:an=MF an (val x) bn (val y):=by unfold MF;rw[if_pos (.inr h2)]
  refine Ac rfl rfl ?_
  (conv=>whnf);repeat' (first|((first|refine kA ?_|(apply Br.mk<;>intro hc)|(refine Aa (plus hx hy) ?_;rintro _ ⟨nn,l,rfl⟩))<;>first|exact hc.elim|conv=>whnf)|refine kB ?_)
  all_goals first|exact key _ e _ _
 by_cases h3:an=0
 ·have e:bn=MF an (val x) bn (val y):=by unfold MF;rw[if_neg (by omega),if_pos h3]
  refine Ac rfl rfl ?_
  (conv=>whnf);repeat' (first|((first|refine kA ?_|(apply Br.mk<;>intro hc))<;>first|exact hc.elim|conv=>whnf)|refine kB ?_)
  all_goals first|exact key _ e _ _
 by_cases h4:z=0
 ·have e:0=MF an (val x) bn (val y):=by unfold MF;rw[if_neg (by omega),if_neg h3,if_pos (z1 h4)]
  refine Ac rfl rfl ?_
  (conv=>whnf);repeat' (first|((first|refine kA ?_|(apply Br.mk<;>intro hc)|refine kE ho ?_)<;>first|exact hc.elim|conv=>whnf)|refine kB ?_)
  refine Ar.mono (K:=fun out s'=>∃l:List Int,out=.ok (.own 2 4 0 14)∧s'=⟨[.arr 0 1 true true (ints (List.replicate 14 0)),.arr 1 1 true true (ints (List.replicate 14 0)),.arr 4 1 true true (ints l)],5⟩∧l.length=14) (Amv (c0:=4) Amw Amw) ?_
  rintro _ _ ⟨l2,rfl,rfl,hl2⟩
  (conv=>whnf);repeat' (first|((first|refine kA ?_|(apply Br.mk<;>intro hc))<;>first|exact hc.elim|conv=>whnf)|refine kB ?_)
  obtain⟨n3,l3,h⟩:=key 0 e true l2
  refine⟨n3,l3,?_⟩
  rw[← h]
  have:=@uI l2
  rw[hl2]at this
  exact congrArg (fun q=>AV.BD [.int .i64 0,.sl true q]) this
 by_cases h5:0<z
 ·have e:an=MF an (val x) bn (val y):=by
   have:=z2 h5
   unfold MF;rw[if_neg (by omega),if_neg h3,if_neg (by omega),if_pos this]
  refine Ac rfl rfl ?_
  (conv=>whnf);repeat' (first|((first|refine kA ?_|(apply Br.mk<;>intro hc)|apply kE ho|(refine Aa (Ad0 hx hy) ?_;rintro _ ⟨nn,l,rfl⟩))<;>first|exact hc.elim|conv=>whnf)|refine kB ?_)
  all_goals first|exact key _ e _ _
 ·have e:bn=MF an (val x) bn (val y):=by
   have:=z3 h4 h5
   unfold MF;rw[if_neg (by omega),if_neg h3,if_neg (by omega),if_neg (by omega)]
  refine Ac rfl rfl ?_
  (conv=>whnf);repeat' (first|((first|refine kA ?_|(apply Br.mk<;>intro hc)|apply kE ho|(refine Aa (Ad0 hy hx) ?_;rintro _ ⟨nn,l,rfl⟩))<;>first|exact hc.elim|conv=>whnf)|refine kB ?_)
  all_goals first|exact key _ e _ _
theorem TJ (n d:Int) (hd:1≤d):(n<0∧Qi n=-1∧0<(n.natAbs:Int)*d∧n*d=-((n.natAbs:Int)*d))∨(n=0∧Qi n=0∧(n.natAbs:Int)*d=0∧n*d=0)∨(0<n∧Qi n=1∧0<(n.natAbs:Int)*d∧n*d=(n.natAbs:Int)*d):=by
 rcases Int.lt_trichotomy n 0 with h|h|h
 ·refine .inl ⟨h,AaI h,Int.mul_pos (by omega) (by omega),?_⟩
  rw[← Int.neg_mul,show -(n.natAbs:Int)=n by omega]
 ·subst h
  exact .inr (.inl ⟨rfl,rfl,by simp,by simp⟩)
 ·refine .inr (.inr ⟨h,AaJ h,Int.mul_pos (by omega) (by omega),?_⟩)
  rw[show (n.natAbs:Int)=n by omega]
theorem AgK {n1 d1 n2 d2:Int} (h1:1≤d1) (h2:1≤d2):MF (Qi n1) ((n1.natAbs:Int)*d2) (0-Qi n2) ((n2.natAbs:Int)*d1)=Qi (n1*d2-n2*d1):=by
 rcases TJ n1 d2 h2 with⟨a1,a2,a3,a4⟩|⟨a1,a2,a3,a4⟩|⟨a1,a2,a3,a4⟩<;>rcases TJ n2 d1 h1 with⟨b1,b2,b3,b4⟩|⟨b1,b2,b3,b4⟩|⟨b1,b2,b3,b4⟩<;>rw[a2,b2,a4,b4]<;>generalize (n1.natAbs:Int)*d2=p at* <;>generalize (n2.natAbs:Int)*d1=q at* <;>unfold MF Qi<;>repeat' split
 all_goals omega
theorem Ad8 {n:Int} (h:Ol n):Ae (Ad tab) 161 [.int .i64 n] (· =.int .i64 (n.natAbs:Int)):=by
 unfold Ol at h
 obtain⟨v,⟨z,rfl,z0,z1⟩,hz⟩:=(size (n:=n) (by omega) (by omega)).KI
 rwa [show z=(n.natAbs:Int) by omega]at hz
theorem Amu {n1 d1 n2 d2:Int} (hf:VF n1 d1) (hg:VF n2 d2):Ae (Ad tab) 96 [.agg [.int .i64 n1,.int .i64 d1],.agg [.int .i64 n2,.int .i64 d2]] (· =.int .i64 (Qi (n1*d2-n2*d1))):=by
 have q1:=Aao hf.2.2.1
 have q2:=Aao hg.2.2.1
 obtain⟨f1,f2,f3,-⟩:=id hf
 obtain⟨g1,g2,g3,-⟩:=id hg
 have v1:Ae (Ad tab) 157 [.agg [.int .i64 n1,.int .i64 d1]] (· =.bool true):=by have:=fvR (n:=n1) (d:=d1);rwa [decide_eq_true hf]at this
 have v2:Ae (Ad tab) 157 [.agg [.int .i64 n2,.int .i64 d2]] (· =.bool true):=by have:=fvR (n:=n2) (d:=d2);rwa [decide_eq_true hg]at this
 obtain⟨_,⟨l1,rfl,x1,x2⟩,t1⟩:=(AdY (a:=(n1.natAbs:Int)) (b:=d2) (by omega) (by omega)).KI
 obtain⟨_,⟨l2,rfl,y1,y2⟩,t2⟩:=(AdY (a:=(n2.natAbs:Int)) (b:=d1) (by omega) (by omega)).KI
 have s1:=Ad9 n1
 have s2:=Ad9 n2
 have hs:=Aou (an:=Qi n1) (bn:=0-Qi n2) x1 y1
 rw[x2,y2,AgK f1 g1]at hs
 refine Ac rfl rfl ?_
 (conv=>whnf);repeat' (first|((first|apply kE v1|apply kE v2|apply kE (sign (n:=n1))|apply kE (sign (n:=n2))|apply kE (Ad8 f3)|apply kE (Ad8 g3)|apply kE t1|apply kE t2|(refine Aa hs ?_;rintro _ ⟨n3,l3,rfl⟩)|refine kA ?_|(apply Br.mk<;>intro hc))<;>first|exact hc.elim|conv=>whnf)|refine kB ?_)
 all_goals first|rfl
theorem AdW {n1 d1 n2 d2:Int} (hf:VF n1 d1) (hg:VF n2 d2):Qi (n1*d2-n2*d1)=0↔n1=n2∧d1=d2:=by
 constructor
 ·intro h
  have h:n1*d2=n2*d1:=by unfold Qi at h;split at h<;>(try split at h)<;>omega
  obtain⟨f1,f2,f3,f4⟩:=hf
  obtain⟨g1,g2,g3,g4⟩:=hg
  have e:n1.natAbs*d2.natAbs=n2.natAbs*d1.natAbs:=by rw[← Int.natAbs_mul,←Int.natAbs_mul,h]
  obtain⟨e1,e2⟩:=Agv (by omega) (by omega) f4 g4 e
  have hd:d1=d2:=by omega
  subst hd
  exact⟨Int.eq_of_mul_eq_mul_right (by omega) h,rfl⟩
 ·rintro⟨rfl,rfl⟩
  rw[Int.sub_self];rfl
theorem Aft {g:GV} (h:VB g):g.k≤6:=by
 obtain⟨_,h⟩:=h
 rcases h with⟨h,_⟩|⟨h,_⟩|⟨h,_⟩|⟨h,_⟩|⟨h,_⟩|⟨h,_⟩<;>omega
theorem Zh {m:Nat} {g:GV} (h7:g.k≠7) (h8:g.k≠8):VV m g↔VB g:=by
 cases m with
 |zero=>exact⟨fun h=>h.elim id fun h=>absurd h.1 h7,.inl⟩
 |succ m=>exact⟨fun h=>h.elim id fun h=>h.elim (fun h=>absurd h.1 h7) fun h=>absurd h.1 h8,.inl⟩
theorem XQ {m:Nat} {g:GV} (hk:g.k=7):VV m g↔g.n=0∧g.d=0∧g.s=[]∧VPa g.l:=by
 have hb:¬VB g:=fun h=>by have:=Aft h;omega
 cases m with
 |zero=>exact⟨fun h=>h.elim (fun h=>absurd h hb) fun h=>h.2,fun h=>.inr ⟨hk,h⟩⟩
 |succ m=>exact⟨fun h=>h.elim (fun h=>absurd h hb) fun h=>h.elim (fun h=>h.2) fun h=>absurd h.1 (by omega),fun h=>.inr (.inl ⟨hk,h⟩)⟩
def VLi (m:Nat) (l:List AV):Prop:=∀i (h:i<l.length),∃x:GV,l[i]=x.av∧VV m x
theorem Agu {m:Nat} {g:GV} (hk:g.k=8):VV (m+1) g↔g.n=0∧g.d=0∧g.s=[]∧g.l.length≤64∧VLi m g.l:=by
 have hb:¬VB g:=fun h=>by have:=Aft h;omega
 exact⟨fun h=>h.elim (fun h=>absurd h hb) fun h=>h.elim (fun h=>absurd h.1 (by omega)) fun h=>h.2,fun h=>.inr (.inr ⟨hk,h⟩)⟩
theorem AdF {g:GV} (hk:g.k=8):¬VV 0 g:=fun h=>h.elim (fun h=>by have:=Aft h;omega) fun h=>by have:=h.1;omega
noncomputable instance (m:Nat) (g:GV):Decidable (VV m g):=Classical.propDecidable _
noncomputable instance (l:List AV):Decidable (VPa l):=Classical.propDecidable _
noncomputable instance (m:Nat) (l:List AV):Decidable (VLi m l):=Classical.propDecidable _
theorem GY {p q:Prop} [Decidable p] [Decidable q] (h:p↔q):AV.bool (decide p)=AV.bool (decide q):=by
 by_cases hp:p
 ·rw[decide_eq_true hp,decide_eq_true (h.1 hp)]
 ·rw[decide_eq_false hp,decide_eq_false (mt h.2 hp)]
set_option maxHeartbeats 1000000 in
theorem vbP {g:GV} (hg:g.ok) (h7:g.k≠7) (h8:g.k≠8) {n:Int}:Ae (Ad tab) 234 [g.av,.int .i64 n] (· =.bool (decide (VB g))):=by
 obtain⟨g1,g2,g3,g4,g5,g6,g7⟩:=hg
 unfold Ln at g4 g5
 refine Ac rfl rfl ?_
 (conv=>whnf);repeat' (first|((first|refine Aq (inP (n:=g.n)) (fun hr=>?_) (fun hr=>?_)|refine Aq (fvP (n:=g.n) (d:=g.d)) (fun hr=>?_) (fun hr=>?_)|apply kE (ixP (l:=g.s))|refine kA ?_|(apply Br.mk<;>intro hc))<;>first|exact hc.elim|conv=>whnf)|refine kB ?_)
 all_goals clear g7 g6
 all_goals first
  |exact Au fun h=>by have:=h.1;omega
  |(refine Bd ?_;unfold VB okS;rw[← I5];first|(simp_all;done)|(simp_all;omega))
  |(refine Au ?_;unfold VB okS;rw[← I5];first|(simp_all;done)|(simp_all;omega))
  |trace_state
theorem XP {l:List AV} {i:Nat} (hi:i<l.length) {x:GV} (e:l[i]=x.av) (hk:x.k=5+(i:Int) % 2) (hv:VB x) (h:∀j (hj:j<l.length),j<i→∃x:GV,l[j]=x.av∧x.k=5+(j:Int) % 2∧VB x):
 ∀j (hj:j<l.length),j<i+1→∃x:GV,l[j]=x.av∧x.k=5+(j:Int) % 2∧VB x:=by
 intro j hj hji
 rcases Nat.lt_or_ge j i with h1|h1
 ·exact h j hj h1
 ·obtain rfl:j=i:=by omega
  exact⟨x,e,hk,hv⟩
set_option maxHeartbeats 1000000 in
theorem Ann {l:List AV} {nn:Bool} (hl:l.length<2^63) (h:∀x∈l,Like Tryz.prog 42 x):Ae (Ad tab) 272 [.sl nn l] (· =.bool (decide (VPa l))):=by
 have htm:(l.length:Int).tmod 2=(l.length:Int) % 2:=Int.tmod_eq_emod_of_nonneg (by omega)
 by_cases hlen:l.length % 2=1∧l.length≤25
 ·obtain⟨hl1,hl2⟩:=hlen
  refine Ac rfl rfl ?_
  (conv=>whnf);repeat' (first|((first|refine kA ?_|(apply Br.mk<;>intro hc))<;>first|exact hc.elim|conv=>whnf)|refine kB ?_)
  refine Ag (fun m env s=>∃i c:Nat,m=l.length-i∧i≤l.length∧(∀ j (hj:j<l.length),j<i→∃x:GV,l[j]=x.av∧x.k=5+(j:Int) % 2∧VB x)∧env=[(15,.sl nn l),(16,.int .i64 l.length),(17,.int .i64 i)]∧s=⟨[],c⟩) ?_ _ _ _ ⟨0,_,rfl,by omega,fun j _ hj=>absurd hj (by omega),rfl,rfl⟩
  rintro _ _ _ ⟨i,c,rfl,hi,hx,rfl,rfl⟩
  refine⟨rfl,?_⟩
  by_cases hlt:i<l.length
  ·obtain⟨gx,hgx⟩:=DX h i
   obtain⟨hn,he,hok⟩:=hgx hlt
   have hno:¬(gx.k=5+(i:Int) % 2∧VB gx)→¬VPa l:=fun hh hv=>by
        obtain⟨x,e,hx2⟩:=hv.2.2 i hlt
        rw[he]at e
        rw[GV.JV e]at hh
        exact hh hx2
   have h2:(i:Int).tmod 2=(i:Int) % 2:=Int.tmod_eq_emod_of_nonneg (by omega)
   have Gf:nth [AV.int .i64 5,AV.int .i64 6] (Int.toNat ((i:Int).tmod 2))=some (.int .i64 (5+(i:Int) % 2)):=by
        rw[h2]
        rcases Nat.mod_two_eq_zero_or_one i with hm|hm
        ·rw[show (i:Int) % 2=0 by omega];rfl
        ·rw[show (i:Int) % 2=1 by omega];rfl
   (conv=>whnf);repeat' (first|((first|(apply Af;(· first|exact hn|exact Gf))|refine Aq (vbP (g:=gx) hok (by omega) (by omega) (n:=0)) (fun hr=>?_) (fun hr=>?_)|refine kA ?_|(apply Br.mk<;>intro hc))<;>first|exact hc.elim|conv=>whnf)|refine kB ?_)
   all_goals first
        |exact again.mk ⟨_,by omega,i+1,_,rfl,by omega,XP hlt he (by omega) hr hx,rfl,rfl⟩
        |exact Au (hno fun hh=>by have:=hh.1;omega)
        |exact Au (hno fun hh=>hr hh.2)
        |trace_state
  ·rw[show i=l.length by omega]at hx
   (conv=>whnf);repeat' (first|((first|refine kA ?_|(apply Br.mk<;>intro hc))<;>first|exact hc.elim|conv=>whnf)|refine kB ?_)
   exact Bd ⟨hl1,hl2,fun j hj=>hx j hj hj⟩
 ·have hno:¬VPa l:=fun hv=>hlen ⟨hv.1,hv.2.1⟩
  refine Ac rfl rfl ?_
  (conv=>whnf);repeat' (first|((first|refine kA ?_|(apply Br.mk<;>intro hc))<;>first|exact hc.elim|conv=>whnf)|refine kB ?_)
  all_goals first|exact Au hno|trace_state
theorem v7 {g:GV} (hg:g.ok) (hk:g.k=7) {n:Int}:Ae (Ad tab) 234 [g.av,.int .i64 n] (· =.bool (decide (g.n=0∧g.d=0∧g.s=[]∧VPa g.l))):=by
 obtain⟨g1,g2,g3,g4,g5,g6,g7⟩:=hg
 unfold Ln at g4 g5
 refine Ac rfl rfl ?_
 (conv=>whnf);repeat' (first|((first|refine Aq (Ann (l:=g.l) (nn:=g.nn) g5 g7) (fun hr=>?_) (fun hr=>?_)|refine kA ?_|(apply Br.mk<;>intro hc))<;>first|exact hc.elim|conv=>whnf)|refine kB ?_)
 all_goals first
  |exact Bd ⟨by omega,by omega,by assumption,hr⟩
  |exact Au fun h=>hr h.2.2.2
  |exact Au fun h=>by have:=h.1;omega
  |exact Au fun h=>by have:=h.2.1;omega
  |exact Au fun h=>absurd h.2.2.1 ‹_›
  |trace_state
theorem AaE {m:Nat} {l:List AV} {i:Nat} (hi:i<l.length) {x:GV} (e:l[i]=x.av) (hv:VV m x) (h:∀j (hj:j<l.length),j<i→∃x:GV,l[j]=x.av∧VV m x):
 ∀j (hj:j<l.length),j<i+1→∃x:GV,l[j]=x.av∧VV m x:=by
 intro j hj hji
 rcases Nat.lt_or_ge j i with h1|h1
 ·exact h j hj h1
 ·obtain rfl:j=i:=by omega
  exact⟨x,e,hv⟩
set_option maxHeartbeats 1000000 in
theorem v8 {g:GV} (hg:g.ok) (hk:g.k=8) {z:Int} (hz:0≤z∧z<8) {m:Nat} (ih:∀{x:GV},x.ok→Ae (Ad tab) 234 [x.av,.int .i64 (z+1)] (· =.bool (decide (VV m x)))):
 Ae (Ad tab) 234 [g.av,.int .i64 z] (· =.bool (decide (g.n=0∧g.d=0∧g.s=[]∧g.l.length≤64∧VLi m g.l))):=by
 obtain⟨g1,g2,g3,g4,g5,g6,g7⟩:=hg
 unfold Ln at g4 g5
 refine Ac rfl rfl ?_
 (conv=>whnf);repeat' (first|((first|refine kA ?_|(apply Br.mk<;>intro hc))<;>first|exact hc.elim|conv=>whnf)|refine kB ?_)
 all_goals first
  |exact Au fun h=>by have:=h.1;omega
  |exact Au fun h=>by have:=h.2.1;omega
  |exact Au fun h=>by have:=h.2.2.2.1;omega
  |exact Au fun h=>absurd h.2.2.1 ‹_›
  |skip
 have hs:g.s=[]:=by assumption
 have hn0:g.n=0:=by omega
 have hd0:g.d=0:=by omega
 have hl0:g.l.length≤64:=by omega
 refine Ag (fun mm env s=>∃i c:Nat,mm=g.l.length-i∧i≤g.l.length∧(∀ j (hj:j<g.l.length),j<i→∃x:GV,g.l[j]=x.av∧VV m x)∧env=[(1,.int .i64 z),(120,.sl g.nn g.l),(121,.int .i64 g.l.length),(122,.int .i64 i)]∧s=⟨[.arr 0 5 true true [g.av]],c⟩) ?_ _ _ _ ⟨0,_,rfl,by omega,fun j _ hj=>absurd hj (by omega),rfl,rfl⟩
 rintro _ _ _ ⟨i,c,rfl,hi,hx,rfl,rfl⟩
 refine⟨rfl,?_⟩
 by_cases hlt:i<g.l.length
 ·obtain⟨gx,hgx⟩:=DX g7 i
  obtain⟨hn,he,hok⟩:=hgx hlt
  (conv=>whnf);repeat' (first|((first|refine Af hn ?_|refine Aq (ih hok) (fun hr=>?_) (fun hr=>?_)|refine kA ?_|(apply Br.mk<;>intro hc))<;>first|exact hc.elim|conv=>whnf)|refine kB ?_)
  all_goals first
   |exact again.mk ⟨_,by omega,i+1,_,rfl,by omega,AaE hlt he hr hx,rfl,rfl⟩
   |exact Au fun hh=>by
     obtain⟨x,e,hv⟩:=hh.2.2.2.2 i hlt
     rw[he]at e
     rw[GV.JV e]at hr
     exact hr hv
   |trace_state
 ·rw[show i=g.l.length by omega]at hx
  (conv=>whnf);repeat' (first|((first|refine kA ?_|(apply Br.mk<;>intro hc))<;>first|exact hc.elim|conv=>whnf)|refine kB ?_)
  exact Bd ⟨hn0,hd0,hs,hl0,fun j hj=>hx j hj hj⟩
theorem Apj {g:GV} (hg:g.ok) (hk:g.k=8):Ae (Ad tab) 234 [g.av,.int .i64 8] (· =.bool false):=by
 obtain⟨g1,g2,g3,g4,g5,g6,g7⟩:=hg
 unfold Ln at g4 g5
 refine Ac rfl rfl ?_
 (conv=>whnf);repeat' (first|((first|refine kA ?_|(apply Br.mk<;>intro hc))<;>first|exact hc.elim|conv=>whnf)|refine kB ?_)
 all_goals rfl
theorem Ak2:∀(m:Nat),m≤8→∀{g:GV},g.ok→Ae (Ad tab) 234 [g.av,.int .i64 (8-(m:Int))] (· =.bool (decide (VV m g))):=by
 intro m
 induction m with
 |zero=>
  intro _ g hg
  by_cases h7:g.k=7
  ·rw[show AV.bool (decide (VV 0 g))=_ from GY (XQ h7)]
   exact v7 hg h7
  by_cases h8:g.k=8
  ·rw[decide_eq_false (AdF h8)]
   exact Apj hg h8
  rw[show AV.bool (decide (VV 0 g))=AV.bool (decide (VB g)) from GY (Zh h7 h8)]
  exact vbP hg h7 h8
 |succ m ih=>
  intro hm g hg
  by_cases h7:g.k=7
  ·rw[show AV.bool (decide (VV (m+1) g))=_ from GY (XQ h7)]
   exact v7 hg h7
  by_cases h8:g.k=8
  ·rw[show AV.bool (decide (VV (m+1) g))=_ from GY (Agu h8)]
   exact v8 hg h8 (by omega) fun{x} hx=>by
        rw[show (8-((m+1:Nat):Int))+1=8-(m:Int) by omega]
        exact ih (by omega) hx
  rw[show AV.bool (decide (VV (m+1) g))=AV.bool (decide (VB g)) from GY (Zh h7 h8)]
  exact vbP hg h7 h8
theorem Wv {g:GV} (hg:g.ok):Ae (Ad tab) 162 [g.av] (· =.bool (decide (VV 8 g))):=by
 have h:=Ak2 8 (by omega) hg
 rw[show (8-((8:Nat):Int))=0 by omega]at h
 refine Ac rfl rfl ?_
 (conv=>whnf);repeat' (first|((first|refine Aq h (fun hr=>?_) (fun hr=>?_)|refine kA ?_|(apply Br.mk<;>intro hc))<;>first|exact hc.elim|conv=>whnf)|refine kB ?_)
 all_goals first|exact Bd hr|exact Au hr
def Pq (v:GV) (n d s l:Bool):Prop:=(n=true∨v.n=0)∧(d=true∨v.d=0)∧(s=true∨v.s=[])∧(l=true∨v.l.length=0)
instance (v:GV) (n d s l:Bool):Decidable (Pq v n d s l):=by unfold Pq;infer_instance
theorem AaD {v:GV} {n d s l:Bool} (hl:v.l.length<2^63):Ae (Ad tab) 225 [v.av,.bool n,.bool d,.bool s,.bool l] (· =.bool (decide (Pq v n d s l))):=by
 cases n<;>cases d<;>cases s<;>cases l
 all_goals
  refine Ac rfl rfl ?_
  (conv=>whnf);repeat' (first|((first|refine kA ?_|(apply Br.mk<;>intro hc))<;>first|exact hc.elim|conv=>whnf)|refine kB ?_)
 all_goals first
  |(refine Bd ?_;unfold Pq;refine⟨?_,?_,?_,?_⟩<;>first|(left;rfl)|(right;first|assumption|omega))
  |(refine Au ?_;unfold Pq;rintro⟨h1,h2,h3,h4⟩;simp only[Bool.false_eq_true,false_or,true_or]at h1 h2 h3 h4;first|contradiction|omega)
theorem Al3 {s:List UInt8} (hl:s.length<2^63):Ae (Ad tab) 227 [.str s] (· =.bool (decide (okS s))):=by
 refine Ac rfl rfl ?_
 (conv=>whnf);repeat' (first|((first|refine kA ?_|(apply Br.mk<;>intro hc))<;>first|exact hc.elim|conv=>whnf)|refine kB ?_)
 refine Ag (fun m env s'=>∃i:Nat,m=s.length-i∧env=[(0,.str s),(3,.int .i64 i)]∧s'=⟨[],0⟩∧∀c∈s.take i,OW c=false) ?_ _ _ _ ⟨0,rfl,rfl,rfl,by simp⟩
 rintro _ _ _ ⟨i,rfl,rfl,rfl,hx⟩
 refine⟨rfl,?_⟩
 (conv=>whnf);repeat' (first|((first|refine kA ?_|(apply Br.mk<;>intro hc))<;>first|exact hc.elim|conv=>whnf)|refine kB ?_)
 all_goals first
  |exact again.mk ⟨_,by omega,i+1,rfl,rfl,rfl,Bl (by omega) hx (by unfold OW;simp;omega)⟩
  |(refine Au fun h=>?_;have:=h.2 s[i] (List.getElem_mem (by omega));unfold OW at this;simp at this;omega)
  |(rw [List.take_of_length_le (by omega)]at hx;exact Bd ⟨by omega,hx⟩)
  |(refine Au fun h=>?_;have:=h.1;omega)
set_option maxHeartbeats 1000000 in
theorem vbR {g:GV} (hg:g.ok) (h7:g.k≠7) (h8:g.k≠8) {n:Int}:Ae (Ad tab) 154 [g.av,.int .i64 n] (· =.bool (decide (VB g))):=by
 obtain⟨g1,g2,g3,g4,g5,g6,g7⟩:=hg
 unfold Ln at g4 g5
 refine Ac rfl rfl ?_
 (conv=>whnf);repeat' (first|((first|refine Aq (AaD (v:=g) g5) (fun hb=>?_) (fun hb=>?_)|refine Aq (Al2 (n:=g.n)) (fun hr=>?_) (fun hr=>?_)|refine Aq (fvR (n:=g.n) (d:=g.d)) (fun hr=>?_) (fun hr=>?_)|refine Aq (Al3 (s:=g.s) g4) (fun hr=>?_) (fun hr=>?_)|refine kA ?_|(apply Br.mk<;>intro hc))<;>first|exact hc.elim|conv=>whnf)|refine kB ?_)
 all_goals clear g7 g6
 all_goals try unfold Pq at hb
 all_goals try simp only[Bool.false_eq_true,false_or,true_or]at hb
 all_goals first
  |(refine Bd ?_;unfold VB;first|(simp_all;done)|(simp_all;omega))
  |(refine Au fun h=>hb ?_;obtain⟨h0,h⟩:=h;rcases h with h|h|h|h|h|h<;>first|omega|(simp_all;done)|(simp_all;omega)|(refine ⟨?_,?_,?_,?_⟩<;>first|omega|simp_all))
  |(refine Au ?_;unfold VB;first|(simp_all;done)|(simp_all;omega))
  |trace_state
set_option maxHeartbeats 1000000 in
theorem AjM {l:List AV} {nn:Bool} (hl:l.length<2^63) (h:∀x∈l,Like Tryz.prog 42 x):Ae (Ad tab) 228 [.sl nn l] (· =.bool (decide (VPa l))):=by
 have htm:(l.length:Int).tmod 2=(l.length:Int) % 2:=Int.tmod_eq_emod_of_nonneg (by omega)
 by_cases hlen:l.length % 2=1∧l.length≤25
 ·obtain⟨hl1,hl2⟩:=hlen
  refine Ac rfl rfl ?_
  (conv=>whnf);repeat' (first|((first|refine kA ?_|(apply Br.mk<;>intro hc))<;>first|exact hc.elim|conv=>whnf)|refine kB ?_)
  refine Ag (fun m env s=>∃i:Nat,m=l.length-i∧i≤l.length∧(∀ j (hj:j<l.length),j<i→∃x:GV,l[j]=x.av∧x.k=5+(j:Int) % 2∧VB x)∧env=[(0,.sl nn l),(3,.int .i64 i)]∧s=⟨[],0⟩) ?_ _ _ _ ⟨0,rfl,by omega,fun j _ hj=>absurd hj (by omega),rfl,rfl⟩
  rintro _ _ _ ⟨i,rfl,hi,hx,rfl,rfl⟩
  refine⟨rfl,?_⟩
  by_cases hlt:i<l.length
  ·obtain⟨gx,hgx⟩:=DX h i
   obtain⟨hn,he,hok⟩:=hgx hlt
   have hno:¬(gx.k=5+(i:Int) % 2∧VB gx)→¬VPa l:=fun hh hv=>by
        obtain⟨x,e,hx2⟩:=hv.2.2 i hlt
        rw[he]at e
        rw[GV.JV e]at hh
        exact hh hx2
   have h2:(i:Int).tmod 2=(i:Int) % 2:=Int.tmod_eq_emod_of_nonneg (by omega)
   (conv=>whnf);repeat' (first|((first|refine Af hn ?_|refine Aq (vbR (g:=gx) hok (by omega) (by omega) (n:=0)) (fun hr=>?_) (fun hr=>?_)|refine kA ?_|(apply Br.mk<;>intro hc))<;>first|exact hc.elim|conv=>whnf)|refine kB ?_)
   all_goals first
        |exact again.mk ⟨_,by omega,i+1,rfl,by omega,XP hlt he (by omega) hr hx,rfl,rfl⟩
        |exact Au (hno fun hh=>by have:=hh.1;omega)
        |exact Au (hno fun hh=>hr hh.2)
        |trace_state
  ·rw[show i=l.length by omega]at hx
   (conv=>whnf);repeat' (first|((first|refine kA ?_|(apply Br.mk<;>intro hc))<;>first|exact hc.elim|conv=>whnf)|refine kB ?_)
   exact Bd ⟨hl1,hl2,fun j hj=>hx j hj hj⟩
 ·have hno:¬VPa l:=fun hv=>hlen ⟨hv.1,hv.2.1⟩
  refine Ac rfl rfl ?_
  (conv=>whnf);repeat' (first|((first|refine kA ?_|(apply Br.mk<;>intro hc))<;>first|exact hc.elim|conv=>whnf)|refine kB ?_)
  all_goals first|exact Au hno|omega|trace_state
theorem v7R {g:GV} (hg:g.ok) (hk:g.k=7) {n:Int}:Ae (Ad tab) 154 [g.av,.int .i64 n] (· =.bool (decide (g.n=0∧g.d=0∧g.s=[]∧VPa g.l))):=by
 obtain⟨g1,g2,g3,g4,g5,g6,g7⟩:=hg
 unfold Ln at g4 g5
 refine Ac rfl rfl ?_
 (conv=>whnf);repeat' (first|((first|refine Aq (AaD (v:=g) g5) (fun hb=>?_) (fun hb=>?_)|refine Aq (AjM (l:=g.l) (nn:=g.nn) g5 g7) (fun hr=>?_) (fun hr=>?_)|refine kA ?_|(apply Br.mk<;>intro hc))<;>first|exact hc.elim|conv=>whnf)|refine kB ?_)
 all_goals try unfold Pq at hb
 all_goals try simp only[Bool.false_eq_true,false_or,true_or]at hb
 all_goals first
  |exact Bd ⟨hb.1,hb.2.1,hb.2.2.1,hr⟩
  |exact Bd ⟨hb.1,hb.2.1,hb.2.2,hr⟩
  |exact Au fun h=>hr h.2.2.2
  |exact Au fun h=>hb ⟨h.1,h.2.1,h.2.2.1,trivial⟩
  |exact Au fun h=>hb ⟨h.1,h.2.1,h.2.2.1⟩
  |trace_state
set_option maxHeartbeats 1000000 in
theorem AjN {g:GV} (hg:g.ok) {z:Int} (hz:1≤z∧z≤8) {m:Nat} (ih:∀{x:GV},x.ok→Ae (Ad tab) 154 [x.av,.int .i64 (z-1)] (· =.bool (decide (VV m x)))):
 Ae (Ad tab) 229 [.sl g.nn g.l,.int .i64 z] (· =.bool (decide (g.l.length≤64∧VLi m g.l))):=by
 obtain⟨g1,g2,g3,g4,g5,g6,g7⟩:=hg
 unfold Ln at g4 g5
 refine Ac rfl rfl ?_
 (conv=>whnf);repeat' (first|((first|refine kA ?_|(apply Br.mk<;>intro hc))<;>first|exact hc.elim|conv=>whnf)|refine kB ?_)
 all_goals first
  |exact Au fun h=>by have:=h.1;omega
  |omega
  |skip
 have hl0:g.l.length≤64:=by omega
 refine Ag (fun mm env s=>∃i:Nat,mm=g.l.length-i∧i≤g.l.length∧(∀ j (hj:j<g.l.length),j<i→∃x:GV,g.l[j]=x.av∧VV m x)∧env=[(0,.sl g.nn g.l),(1,.int .i64 z),(5,.int .i64 i)]∧s=⟨[],0⟩) ?_ _ _ _ ⟨0,rfl,by omega,fun j _ hj=>absurd hj (by omega),rfl,rfl⟩
 rintro _ _ _ ⟨i,rfl,hi,hx,rfl,rfl⟩
 refine⟨rfl,?_⟩
 by_cases hlt:i<g.l.length
 ·obtain⟨gx,hgx⟩:=DX g7 i
  obtain⟨hn,he,hok⟩:=hgx hlt
  (conv=>whnf);repeat' (first|((first|refine Af hn ?_|refine Aq (ih hok) (fun hr=>?_) (fun hr=>?_)|refine kA ?_|(apply Br.mk<;>intro hc))<;>first|exact hc.elim|conv=>whnf)|refine kB ?_)
  all_goals first
   |exact again.mk ⟨_,by omega,i+1,rfl,by omega,AaE hlt he hr hx,rfl,rfl⟩
   |exact Au fun hh=>by
     obtain⟨x,e,hv⟩:=hh.2 i hlt
     rw[he]at e
     rw[GV.JV e]at hr
     exact hr hv
   |trace_state
 ·rw[show i=g.l.length by omega]at hx
  (conv=>whnf);repeat' (first|((first|refine kA ?_|(apply Br.mk<;>intro hc))<;>first|exact hc.elim|conv=>whnf)|refine kB ?_)
  exact Bd ⟨hl0,fun j hj=>hx j hj hj⟩
theorem v8R {g:GV} (hg:g.ok) (hk:g.k=8) {z:Int} {p:Prop} [Decidable p] (hlist:Ae (Ad tab) 229 [.sl g.nn g.l,.int .i64 z] (· =.bool (decide p))):
 Ae (Ad tab) 154 [g.av,.int .i64 z] (· =.bool (decide (g.n=0∧g.d=0∧g.s=[]∧p))):=by
 obtain⟨g1,g2,g3,g4,g5,g6,g7⟩:=hg
 unfold Ln at g4 g5
 refine Ac rfl rfl ?_
 (conv=>whnf);repeat' (first|((first|refine Aq (AaD (v:=g) g5) (fun hb=>?_) (fun hb=>?_)|refine Aq hlist (fun hr=>?_) (fun hr=>?_)|refine kA ?_|(apply Br.mk<;>intro hc))<;>first|exact hc.elim|conv=>whnf)|refine kB ?_)
 all_goals try unfold Pq at hb
 all_goals try simp only[Bool.false_eq_true,false_or,true_or]at hb
 all_goals first
  |exact Bd ⟨hb.1,hb.2.1,hb.2.2.1,hr⟩
  |exact Bd ⟨hb.1,hb.2.1,hb.2.2,hr⟩
  |exact Au fun h=>hr h.2.2.2
  |exact Au fun h=>hb ⟨h.1,h.2.1,h.2.2.1,trivial⟩
  |exact Au fun h=>hb ⟨h.1,h.2.1,h.2.2.1⟩
  |trace_state
theorem AjO {l:List AV} {nn:Bool} (hl:l.length<2^63):Ae (Ad tab) 229 [.sl nn l,.int .i64 0] (· =.bool (decide False)):=by
 refine Ac rfl rfl ?_
 (conv=>whnf);repeat' (first|((first|refine kA ?_|(apply Br.mk<;>intro hc))<;>first|exact hc.elim|conv=>whnf)|refine kB ?_)
 all_goals rfl
theorem Agt:∀(m:Nat),m≤8→∀{g:GV},g.ok→Ae (Ad tab) 154 [g.av,.int .i64 (m:Int)] (· =.bool (decide (VV m g))):=by
 intro m
 induction m with
 |zero=>
  intro _ g hg
  by_cases h7:g.k=7
  ·rw[show AV.bool (decide (VV 0 g))=_ from GY (XQ h7)]
   exact v7R hg h7
  by_cases h8:g.k=8
  ·rw[show AV.bool (decide (VV 0 g))=AV.bool (decide (g.n=0∧g.d=0∧g.s=[]∧False)) from GY ⟨fun h=>absurd h (AdF h8),fun h=>h.2.2.2.elim⟩]
   exact v8R hg h8 (AjO hg.2.2.2.2.1)
  rw[show AV.bool (decide (VV 0 g))=AV.bool (decide (VB g)) from GY (Zh h7 h8)]
  exact vbR hg h7 h8
 |succ m ih=>
  intro hm g hg
  by_cases h7:g.k=7
  ·rw[show AV.bool (decide (VV (m+1) g))=_ from GY (XQ h7)]
   exact v7R hg h7
  by_cases h8:g.k=8
  ·rw[show AV.bool (decide (VV (m+1) g))=_ from GY (Agu h8)]
   exact v8R hg h8 (AjN hg (by omega) fun{x} hx=>by
        rw[show ((m+1:Nat):Int)-1=(m:Int) by omega]
        exact ih (by omega) hx)
  rw[show AV.bool (decide (VV (m+1) g))=AV.bool (decide (VB g)) from GY (Zh h7 h8)]
  exact vbR hg h7 h8
theorem AdG {g:GV} (hg:g.ok):Ae (Ad tab) 90 [g.av] (· =.bool (decide (VV 8 g))):=by
 have h:=Agt 8 (by omega) hg
 refine Ac rfl rfl ?_
 (conv=>whnf);repeat' (first|((first|refine Aq h (fun hr=>?_) (fun hr=>?_)|refine kA ?_|(apply Br.mk<;>intro hc))<;>first|exact hc.elim|conv=>whnf)|refine kB ?_)
 all_goals first|exact Bd hr|exact Au hr
def JW (g:GV):Prop:=VV 8 g∧(g.k=2∨g.k=3)
noncomputable instance (g:GV):Decidable (JW g):=by unfold JW;infer_instance
def dn (g:GV):Int:=if g.k=2 then 1 else g.d
theorem RG {g:GV} (h:JW g):VF g.n (dn g):=by
 obtain⟨hv,hk⟩:=h
 rw[Zh (by omega) (by omega)]at hv
 obtain⟨h1,h2⟩:=hv
 unfold dn
 rcases hk with hk|hk
 ·rw[if_pos hk]
  rcases h2 with h|h|h|h|h|h<;>first|omega|exact⟨by omega,by omega,h.2.1,by simp⟩
 ·rw[if_neg (by omega)]
  rcases h2 with h|h|h|h|h|h<;>first|omega|exact h.2.2.1
theorem vP {g:GV} (hg:g.ok) (h:VV 8 g):Ae (Ad tab) 162 [g.av] (· =.bool true):=by have:=Wv hg;rwa [decide_eq_true h]at this
theorem vPn {g:GV} (hg:g.ok) (h:¬VV 8 g):Ae (Ad tab) 162 [g.av] (· =.bool false):=by have:=Wv hg;rwa [decide_eq_false h]at this
theorem vR {g:GV} (hg:g.ok) (h:VV 8 g):Ae (Ad tab) 90 [g.av] (· =.bool true):=by have:=AdG hg;rwa [decide_eq_true h]at this
theorem vRn {g:GV} (hg:g.ok) (h:¬VV 8 g):Ae (Ad tab) 90 [g.av] (· =.bool false):=by have:=AdG hg;rwa [decide_eq_false h]at this
theorem nP1 {g:GV} (hg:g.ok) (h:JW g):Ae (Ad tab) 236 [g.av] (· =.BD [.agg [.int .i64 g.n,.int .i64 (dn g)],.bool true]):=by
 have hv:=vP hg h.1
 rcases h.2 with hk|hk
 ·have e:dn g=1:=if_pos hk
  rw[e]
  refine Ac rfl rfl ?_
  (conv=>whnf);repeat' (first|((first|apply kE hv|refine kA ?_|(apply Br.mk<;>intro hc))<;>first|exact hc.elim|conv=>whnf)|refine kB ?_)
  all_goals first|rfl
 ·have e:dn g=g.d:=if_neg (by omega)
  rw[e]
  refine Ac rfl rfl ?_
  (conv=>whnf);repeat' (first|((first|apply kE hv|refine kA ?_|(apply Br.mk<;>intro hc))<;>first|exact hc.elim|conv=>whnf)|refine kB ?_)
  all_goals first|rfl
theorem nP0 {g:GV} (hg:g.ok) (h:¬JW g):Ae (Ad tab) 236 [g.av] (· =.BD [.agg [.int .i64 0,.int .i64 0],.bool false]):=by
 by_cases hk:g.k=2∨g.k=3
 ·have hv:=vPn hg (fun hv=>h ⟨hv,hk⟩)
  refine Ac rfl rfl ?_
  (conv=>whnf);repeat' (first|((first|apply kE hv|refine kA ?_|(apply Br.mk<;>intro hc))<;>first|exact hc.elim|conv=>whnf)|refine kB ?_)
  all_goals first|rfl
 ·refine Ac rfl rfl ?_
  (conv=>whnf);repeat' (first|((first|refine kA ?_|(apply Br.mk<;>intro hc))<;>first|exact hc.elim|conv=>whnf)|refine kB ?_)
  all_goals first|rfl
theorem nR1 {g:GV} (hg:g.ok) (h:JW g):Ae (Ad tab) 95 [g.av] (· =.BD [.agg [.int .i64 g.n,.int .i64 (dn g)],.bool true]):=by
 have hv:=vR hg h.1
 rcases h.2 with hk|hk
 ·have e:dn g=1:=if_pos hk
  rw[e]
  refine Ac rfl rfl ?_
  (conv=>whnf);repeat' (first|((first|apply kE hv|refine kA ?_|(apply Br.mk<;>intro hc))<;>first|exact hc.elim|conv=>whnf)|refine kB ?_)
  all_goals first|rfl
 ·have e:dn g=g.d:=if_neg (by omega)
  rw[e]
  refine Ac rfl rfl ?_
  (conv=>whnf);repeat' (first|((first|apply kE hv|refine kA ?_|(apply Br.mk<;>intro hc))<;>first|exact hc.elim|conv=>whnf)|refine kB ?_)
  all_goals first|rfl
theorem nR0 {g:GV} (hg:g.ok) (h:¬JW g):Ae (Ad tab) 95 [g.av] (· =.BD [.agg [.int .i64 0,.int .i64 0],.bool false]):=by
 by_cases hV:VV 8 g
 ·have hv:=vR hg hV
  have hk:¬(g.k=2∨g.k=3):=fun hk=>h ⟨hV,hk⟩
  refine Ac rfl rfl ?_
  (conv=>whnf);repeat' (first|((first|apply kE hv|refine kA ?_|(apply Br.mk<;>intro hc))<;>first|exact hc.elim|conv=>whnf)|refine kB ?_)
  all_goals first|rfl
 ·have hv:=vRn hg hV
  refine Ac rfl rfl ?_
  (conv=>whnf);repeat' (first|((first|apply kE hv|refine kA ?_|(apply Br.mk<;>intro hc))<;>first|exact hc.elim|conv=>whnf)|refine kB ?_)
  all_goals first|rfl
theorem AjU:Ae (Ad tab) 91 [.bool true] (· =.int .i64 2):=⟨_,⟨20,by kernel_rfl⟩,rfl⟩
theorem AdX:Ae (Ad tab) 91 [.bool false] (· =.int .i64 0):=⟨_,⟨20,by kernel_rfl⟩,rfl⟩
theorem Aiu {a:GV} (h:VV 8 a) (h7:a.k≠7) (h8:a.k≠8):(a.k=4→a.n=0)∧(a.k≠4→a.s=[]):=by
 rw[Zh h7 h8]at h
 obtain⟨_,h⟩:=h
 rcases h with h|h|h|h|h|h<;>exact⟨fun hk=>by first|omega|exact h.2.1,fun hk=>by first|exact h.2.2.2|exact h.2.2.2.2|omega⟩
end AI
end Go.Proofs.YtjijnamhalgamaaGreatDoor
