/- Closeness: the program's. frac.Of, frac.Add of the reference. Closeness: the reference's. -/
import Derived.Test.YtchcadfjbkkgmaaGreatDoorDMan
import Derived.Test.YtchcadfjbkkgmaaGreatDoorDMao
import Derived.Test.YtchcadfjbkkgmaaGreatDoorDMaj
import Derived.Test.YtchcadfjbkkgmaaGreatDoorDMah
import Derived.Test.YtchcadfjbkkgmaaGreatDoorDMai
set_option linter.unusedVariables false
set_option maxRecDepth 4000
namespace Go.Proofs.YtchcadfjbkkgmaaGreatDoor
namespace AI
theorem AhE {x:Int}:Ah (Ac tab) 67 [.int .i64 x] (· =.bool false):=by
 refine Ad rfl rfl ?_
 (conv=>whnf);repeat' (first  |(refine kA ?_;conv=>whnf)|(refine Br.mk (fun hc=>?_) fun hc=>?_<;>first|exact hc.elim|conv=>whnf)|(refine kB ?_))
 all_goals first|rfl|(exfalso;simp_all)
theorem bsX {l:List Int} {nn:Bool} {x:Int} (hl:l.length<2^62) (hi:l.Pairwise (· <·)):Ah (Ac tab) 29 [.sl nn (vs (.int .i64) l),.int .i64 x] (fun v=>∃i:Nat,v=.Ce [.int .i64 i,.bool (decide (x∈l))]∧(x∈l→∃h:i<l.length,l[i]=x)):=by
 have hg:∀{a b:Nat} (ha:a<l.length) (hb:b<l.length),a<b→l[a]<l[b]:=fun{a b} ha hb hab=>List.pairwise_iff_getElem.1 hi a b ha hb hab
 refine Ad rfl rfl ?_
 (conv=>whnf);repeat' (first  |(refine kA ?_;conv=>whnf)|(refine Br.mk (fun hc=>?_) fun hc=>?_<;>first|exact hc.elim|conv=>whnf)|(refine kB ?_))
 all_goals first|(exfalso;omega)|skip
 refine Ai (fun m env s=>∃(i j:Nat),m=j-i∧i≤j∧j≤l.length∧env=[(0,.sl nn (vs (.int .i64) l)),(1,.int .i64 x),(6,.int .i64 l.length),(7,.int .i64 i),(8,.int .i64 j)]∧s=⟨[],0⟩∧
  (∀ k (h:k<l.length),k<i→l[k]<x)∧(∀ k (h:k<l.length),j≤k→¬l[k]<x)) ?_ _ _ _ ⟨0,l.length,rfl,by omega,by omega,rfl,rfl,fun k _ h=>absurd h (by omega),fun k h1 h=>absurd h (by omega)⟩
 rintro _ _ _ ⟨i,j,rfl,hij,hj,rfl,rfl,h1,h2⟩
 refine⟨rfl,?_⟩
 by_cases hlt:i<j
 ·have hq:(i+j) / 2<l.length:=by omega
  have hp:=@AjB l[(i+j) / 2] x
  by_cases hb:l[(i+j) / 2]<x
  ·rw[show ltJ l[(i+j) / 2] x=true from Me.2 hb]at hp
   (conv=>whnf);repeat' (first|(refine Aaj (i+j) (by omega) (by omega) ?_;conv=>whnf)|(apply AU;(· exact Afm _);conv=>whnf)|(refine Aa hp ?_;rintro _ rfl;conv=>whnf)|(refine kA ?_;conv=>whnf)|(refine Br.mk (fun hc=>?_) fun hc=>?_<;>first|exact hc.elim|conv=>whnf)|(refine kB ?_))
   all_goals first
        |(exfalso;omega)
        |exact again.mk ⟨_,by omega,(i+j) / 2+1,j,rfl,by omega,hj,rfl,rfl,fun k hk hlt=>by
          rcases Nat.lt_or_ge k ((i+j) / 2)with q|q
          ·have:=hg hk hq q;omega
          ·obtain rfl:k=(i+j) / 2:=by omega
           exact hb,h2⟩
  ·rw[show ltJ l[(i+j) / 2] x=false from Jv.2 hb]at hp
   (conv=>whnf);repeat' (first|(refine Aaj (i+j) (by omega) (by omega) ?_;conv=>whnf)|(apply AU;(· exact Afm _);conv=>whnf)|(refine Aa hp ?_;rintro _ rfl;conv=>whnf)|(refine kA ?_;conv=>whnf)|(refine Br.mk (fun hc=>?_) fun hc=>?_<;>first|exact hc.elim|conv=>whnf)|(refine kB ?_))
   all_goals first
        |(exfalso;omega)
        |exact again.mk ⟨_,by omega,i,(i+j) / 2,rfl,by omega,by omega,rfl,rfl,h1,fun k hk hle=>by
          rcases Nat.lt_or_ge ((i+j) / 2) k with q|q
          ·have:=hg hq hk q;omega
          ·obtain rfl:k=(i+j) / 2:=by omega
           exact hb⟩
 ·obtain rfl:i=j:=by omega
  have hmem:x∈l↔∃h:i<l.length,l[i]=x:=by
   constructor
   ·intro hx
    obtain⟨k,hk,e⟩:=List.getElem_of_mem hx
    have a1:¬k<i:=fun h=>by have:=h1 k hk h;omega
    rcases Nat.lt_or_ge i k with q|q
    ·have b1:=h2 i (by omega) (Nat.le_refl _)
     have b2:=hg (a:=i) (by omega) hk q
     omega
    ·obtain rfl:k=i:=by omega
     exact⟨hk,e⟩
   ·rintro⟨h,rfl⟩
    exact List.getElem_mem h
  by_cases hil:i<l.length
  ·by_cases he:l[i]=x
   ·rw[decide_eq_true (hmem.2 ⟨hil,he⟩)]
    (conv=>whnf);repeat' (first|(refine Aa AhE ?_;rintro _ rfl;conv=>whnf)|(refine kA ?_;conv=>whnf)|(refine Br.mk (fun hc=>?_) fun hc=>?_<;>first|exact hc.elim|conv=>whnf)|(refine kB ?_))
    all_goals first
     |exact⟨i,rfl,fun hx=>hmem.1 hx⟩
     |(exfalso;omega)
     |exact absurd he (by assumption)
   ·rw[decide_eq_false (fun h=>by obtain⟨_,e⟩:=hmem.1 h;exact he e)]
    (conv=>whnf);repeat' (first|(refine Aa AhE ?_;rintro _ rfl;conv=>whnf)|(refine kA ?_;conv=>whnf)|(refine Br.mk (fun hc=>?_) fun hc=>?_<;>first|exact hc.elim|conv=>whnf)|(refine kB ?_))
    all_goals first
     |exact⟨i,rfl,fun hx=>hmem.1 hx⟩
     |(exfalso;omega)
     |exact absurd (by assumption) he
  ·rw[decide_eq_false (fun h=>by obtain⟨h,_⟩:=hmem.1 h;exact hil h)]
   (conv=>whnf);repeat' (first|(refine Aa AhE ?_;rintro _ rfl;conv=>whnf)|(refine kA ?_;conv=>whnf)|(refine Br.mk (fun hc=>?_) fun hc=>?_<;>first|exact hc.elim|conv=>whnf)|(refine kB ?_))
   all_goals first
        |exact⟨i,rfl,fun hx=>hmem.1 hx⟩
        |(exfalso;omega)
def PE (f:Nat→Int):Nat→Nat×Nat
 |0=>(0,0)
 |k+1=>if 0<f k then((PE f k).1+1,(PE f k).2+(f k).toNat)else PE f k
theorem YO {f:Nat→Int} {n:Nat} (h:∀v,v<n→f v<n):∀{k:Nat},k≤n→(PE f k).1≤k∧(PE f k).2≤k*n∧(0<(PE f k).1→0<(PE f k).2)
 |0,_=>⟨Nat.le_refl _,Nat.zero_le _,fun h=>absurd h (by simp[PE])⟩
 |k+1,hk=>by
  obtain⟨h1,h2,h3⟩:=YO h (k:=k) (by omega)
  have h4:=h k (by omega)
  unfold PE
  rw[Nat.succ_mul]
  split
  ·exact⟨by dsimp only;omega,by dsimp only;omega,fun _=>by dsimp only;omega⟩
  ·exact⟨by omega,by omega,h3⟩
def clV (p:Nat×Nat):AV:=if p.1=0 then .Ce [fv (0,1),.bool true]else .Ce [fv (KN p.1 p.2),.bool true]
noncomputable def clG (types:List (List UInt8)) (g:GG) (id:Int):AV:=
 if Bd g=0∧id∈Ba g then clV (PE (EG (DI types g) g.nodes.length (JA g id)) g.nodes.length)else .Ce [fv (0,0),.bool false]
theorem AhF {g:GG} (hck:Bd g=0) {id:Int} {i:Nat} (h:∃h:i<(Ba g).length,(Ba g)[i]=id):i=JA g id∧i<g.nodes.length:=by
 obtain⟨h,e⟩:=h
 have hi:i<g.nodes.length:=by rwa [CV]at h
 refine⟨?_,hi⟩
 rw[← e,Gg hi,←Js hi,VX hck hi]
set_option maxHeartbeats 4000000 in
theorem AhG {g:GG} (hg:g.ok) (hN:g.nodes.length≤12) (hE:g.edges.length≤1000) {types:List (List UInt8)} {tn:Bool} (ht:types.length<2^63) {id:Int}:Ah (Ac tab) 9 [g.av,.sl tn (vs .str types),.int .i64 id] (· =clG types g id):=by
 have pk:=V9 hg
 unfold clG
 by_cases hck:Bd g=0
 case neg=>
  rw[if_neg (fun h=>hck h.1)]
  generalize Bd g=e0 at pk hck
  refine Ad rfl rfl ?_
  (conv=>whnf);repeat' (first|(refine Aa pk ?_;rintro _ rfl;conv=>whnf)|(refine kA ?_;conv=>whnf)|(refine Br.mk (fun hc=>?_) fun hc=>?_<;>first|exact hc.elim|conv=>whnf)|(refine kB ?_))
  all_goals first|rfl|(exfalso;omega)
 have pb:=AcS hg (by omega) hE hck (types:=types) (tn:=tn) ht
 rw[hck]at pk
 obtain⟨_,⟨i,rfl,hi⟩,ps⟩:=(bsX (l:=Ba g) (nn:=decide (0<g.nodes.length)) (x:=id) (by rw[CV];omega) (Aaz hck)).YI
 by_cases hm:id∈Ba g
 case neg=>
  rw[decide_eq_false hm]at ps
  rw[if_neg (fun h=>hm h.2)]
  unfold Abz at pb
  refine Ad rfl rfl ?_
  (conv=>whnf);repeat' (first|((first|refine Aa pk ?_|refine Aa pb ?_|refine Aa ps ?_);rintro _ rfl;conv=>whnf)|(refine kA ?_;conv=>whnf)|(refine Br.mk (fun hc=>?_) fun hc=>?_<;>first|exact hc.elim|conv=>whnf)|(refine kB ?_))
  all_goals first|rfl|(exfalso;omega)
 rw[decide_eq_true hm]at ps
 rw[if_pos ⟨hck,hm⟩]
 obtain⟨rfl,hlt⟩:=AhF hck (hi hm)
 have pr:=Adv (ids:=Ba g) (A:=DI types g) (CV g) hN hlt
 have hb:∀v,v<g.nodes.length→EG (DI types g) g.nodes.length (JA g id) v<(g.nodes.length:Nat):=fun v hv=>PO hlt hv
 generalize (ints (Dj g.nodes.length fun v=>(Et (DI types g) g.nodes.length (JA g id) v:Int)))=PL at pr
 generalize EG (DI types g) g.nodes.length (JA g id)=f at*
 generalize JA g id=ii at*
 have hnv:Abz (Ba g) (DI types g) g.nodes.length=.agg [.sl (decide (0<g.nodes.length)) (ints (Ba g)),.sl true (vs Ut ((List.range g.nodes.length).map (MS (DI types g) g.nodes.length)))]:=rfl
 rw[hnv]at pb pr
 have hT:(Dj g.nodes.length f).length=g.nodes.length:=Jb
 generalize vs Ut ((List.range g.nodes.length).map (MS (DI types g) g.nodes.length))=RW at pb pr
 refine Ad rfl rfl ?_
 (conv=>whnf);repeat' (first|((first|refine Aa pk ?_|refine Aa pb ?_|refine Aa ps ?_|refine Aa pr ?_);rintro _ rfl;conv=>whnf)|(refine kA ?_;conv=>whnf)|(refine Br.mk (fun hc=>?_) fun hc=>?_<;>first|exact hc.elim|conv=>whnf)|(refine kB ?_))
 all_goals first|(exfalso;omega)|skip
 rw[hT]
 refine Ai (fun m env s=>∃(k c:Nat),m=g.nodes.length-k∧k≤g.nodes.length∧env=[(6,.ref 1 1 0 0),(14,.int .i64 ((PE f k).1:Nat)),(15,.int .i64 ((PE f k).2:Nat)),(42,.sl true (ints (Dj g.nodes.length f))),(43,.int .i64 g.nodes.length),(44,.int .i64 k)]∧s=⟨[.arr 0 4 true true [g.av],.arr 1 2 true true [.agg [.int .i64 0,.int .i64 0]],.arr 2 2 true true [.agg [.sl (decide (0<g.nodes.length)) (ints (Ba g)),.sl true RW]]],c⟩) ?_ _ _ _ ⟨0,_,rfl,by omega,rfl,rfl⟩
 rintro _ _ _ ⟨k,c,rfl,hk,rfl,rfl⟩
 refine⟨rfl,?_⟩
 obtain⟨b1,b2,b3⟩:=YO hb hk
 have b4:k*g.nodes.length≤12*12:=Nat.mul_le_mul (by omega) hN
 by_cases hkl:k<g.nodes.length
 ·have aF:(Dj g.nodes.length f)[k]'(by rw[hT];exact hkl)=f k:=BM _
  have hfb:=hb k hkl
  have hs:PE f (k+1)=if 0<f k then((PE f k).1+1,(PE f k).2+(f k).toNat)else PE f k:=rfl
  by_cases h0:0<f k
  ·rw[if_pos h0]at hs
   (conv=>whnf);repeat' (first  |(refine kA ?_;conv=>whnf)|(refine Br.mk (fun hc=>?_) fun hc=>?_<;>first|exact hc.elim|conv=>whnf)|(refine kB ?_))
   all_goals first
        |(exfalso;omega)
        |(refine again.mk ⟨_,by omega,k+1,_,rfl,by omega,?_,rfl⟩
          rw[hs]
          dsimp only
          rw[show ((((PE f k).2+(f k).toNat:Nat)):Int)=((PE f k).2:Int)+(Dj g.nodes.length f)[k]'(by rw[hT];exact hkl) by omega]
          rfl)
  ·rw[if_neg h0]at hs
   (conv=>whnf);repeat' (first  |(refine kA ?_;conv=>whnf)|(refine Br.mk (fun hc=>?_) fun hc=>?_<;>first|exact hc.elim|conv=>whnf)|(refine kB ?_))
   all_goals first
        |(exfalso;omega)
        |exact again.mk ⟨_,by omega,k+1,_,rfl,by omega,by rw[hs];rfl,rfl⟩
 ·obtain rfl:k=g.nodes.length:=by omega
  unfold clV
  generalize PE f g.nodes.length=P at*
  obtain⟨r,d⟩:=P
  dsimp only at*
  by_cases hr:r=0
  ·subst hr
   rw[if_pos rfl]
   (conv=>whnf);repeat' (first  |(refine kA ?_;conv=>whnf)|(refine Br.mk (fun hc=>?_) fun hc=>?_<;>first|exact hc.elim|conv=>whnf)|(refine kB ?_))
   all_goals first
        |(exfalso;omega)
        |rfl
  ·rw[if_neg hr]
   have po:=ofP (a:=r) (b:=d) (by unfold F9;omega) (by unfold F9;omega) (b3 (by omega))
   generalize KN r d=L at po
   (conv=>whnf);repeat' (first|(refine Aa po ?_;rintro _ rfl;conv=>whnf)|(refine kA ?_;conv=>whnf)|(refine Br.mk (fun hc=>?_) fun hc=>?_<;>first|exact hc.elim|conv=>whnf)|(refine kB ?_))
   all_goals first
        |(exfalso;omega)
        |rfl
theorem ofR {a b:Nat} (ha:a≤F9) (hb:b≤F9) (h0:0<b):Ah (Ac tab) 35 [.int .i64 a,.int .i64 b] (· =.Ce [fv (KN a b),.bool true]):=by
 have i1:=WU (Hl ha)
 have i2:=WU (Hl hb)
 simp only[Int.natAbs_natCast]at i1 i2
 have hg:=Af5 (a:=a) (b:=b) (by unfold F9 at *;omega) (by unfold F9 at *;omega)
 have hgp:0<Nat.gcd a b:=Nat.gcd_pos_of_pos_right a h0
 have hgl:Nat.gcd a b≤b:=Nat.gcd_le_right a h0
 unfold KN fv
 unfold F9 at ha hb
 have q1:a / Nat.gcd a b≤a:=Nat.div_le_self _ _
 have q2:b / Nat.gcd a b≤b:=Nat.div_le_self _ _
 have e1:=UG a (Nat.gcd a b)
 have e2:=UG b (Nat.gcd a b)
 generalize a / Nat.gcd a b=A at*
 generalize b / Nat.gcd a b=B at*
 generalize Nat.gcd a b=g at*
 refine Ad rfl rfl ?_
 (conv=>whnf);repeat' (first|((first|refine Aa i1 ?_|refine Aa i2 ?_|refine Aa hg ?_);rintro _ rfl;conv=>whnf)|(rw [e1];conv=>whnf)|(rw [e2];conv=>whnf)|(refine kA ?_;conv=>whnf)|(refine Br.mk (fun hc=>?_) fun hc=>?_<;>first|exact hc.elim|conv=>whnf)|(refine kB ?_))
 all_goals first|rfl|(exfalso;omega)
theorem JR {l:List Int} {k:Nat} (h:k<l.length):val (l.drop k)=l[k]+1000*val (l.drop (k+1)):=by
 rw[List.drop_eq_getElem_cons h];rfl
theorem Akg {x y:List Int} (hx:QB x) (hy:QB y) (hs:val x+val y<1000000000000000000000000000000000000000):Ah (Ac tab) 82 [Xj true x,Xj true y] (fun v=>∃l,v=Xj true l∧QB l∧val l=val x+val y):=by
 have hxl:=hx.1
 have hyl:=hy.1
 have hx0:=FP hx.2
 have hy0:=FP hy.2
 generalize hV:val x+val y=V at*
 refine Ad rfl rfl ?_
 (conv=>whnf);repeat' (first  |(refine kA ?_;conv=>whnf)|(refine Br.mk (fun hc=>?_) fun hc=>?_<;>first|exact hc.elim|conv=>whnf)|(refine kB ?_))
 refine Ai (fun m env s=>∃(k:Nat) (c:Int) (l:List Int),m=14-k∧k≤14∧0≤c∧c≤1∧QB l∧val l+(c+val (x.drop k)+val (y.drop k))*pw k=V∧(∀ q (h:q<l.length),k≤q→l[q]=0)∧env=[(0,Xj true x),(1,Xj true y),(5,.own 0 0 0 x.length),(6,.int .i64 c),(7,.int .i64 k)]∧s=⟨[.arr 0 1 true true (ints l)],1⟩) ?_ _ _ _ ⟨0,0,List.replicate x.length 0,rfl,by omega,by omega,by omega,⟨by simp[hxl],by intro z hz;have:=List.eq_of_mem_replicate hz;omega⟩,by rw[val_zero];show 0+(0+val x+val y)*1=V;omega,fun q h _=>List.getElem_replicate _,by first|rfl|simp,rfl⟩
 rintro _ _ _ ⟨k,c,l,rfl,hk,c0,c1,hl,hv,hz,rfl,rfl⟩
 refine⟨rfl,?_⟩
 by_cases hlt:k<x.length
 ·have hky:k<y.length:=by omega
  have hkl:k<l.length:=by rw[hl.1];omega
  have bx:0≤x[k]∧x[k]≤999:=hx.2 _ (List.getElem_mem hlt)
  have bY:0≤y[k]∧y[k]≤999:=hy.2 _ (List.getElem_mem hky)
  rw[JR hlt,JR hky]at hv
  have e1:=tmE (show 0≤c+x[k]+y[k] by omega)
  have e2:=tdE (show 0≤c+x[k]+y[k] by omega)
  have hm0:0≤(c+x[k]+y[k]).tmod 1000∧(c+x[k]+y[k]).tmod 1000≤999:=by omega
  have hd0:0≤(c+x[k]+y[k]).tdiv 1000∧(c+x[k]+y[k]).tdiv 1000≤1:=by omega
  have hsum:c+x[k]+y[k]=(c+x[k]+y[k]).tmod 1000+1000*(c+x[k]+y[k]).tdiv 1000:=by omega
  have hset:QB (l.set k ((c+x[k]+y[k]).tmod 1000)):=⟨by rw[List.length_set];exact hl.1,fun z hz=>by
   rcases List.mem_or_eq_of_mem_set hz with h|h
   ·exact hl.2 z h
   ·rw[h];exact hm0⟩
  have hv2:val (l.set k ((c+x[k]+y[k]).tmod 1000))+((c+x[k]+y[k]).tdiv 1000+val (x.drop (k+1))+val (y.drop (k+1)))*pw (k+1)=V:=by
   rw[WO hkl,hz k hkl (Nat.le_refl k),←hv]
   show val l+((c+x[k]+y[k]).tmod 1000-0)*pw k+((c+x[k]+y[k]).tdiv 1000+val (x.drop (k+1))+val (y.drop (k+1)))*(1000*pw k)=_
   rw[← Int.mul_assoc _ 1000,Int.add_assoc,←Int.add_mul]
   congr 2
   omega
  have hz2:∀q (h:q<(l.set k ((c+x[k]+y[k]).tmod 1000)).length),k+1≤q→(l.set k ((c+x[k]+y[k]).tmod 1000))[q]=0:=fun q h hq=>by
   rw[List.getElem_set_ne (by omega)]
   exact hz q (by simpa using h) (by omega)
  clear e1 e2
  generalize hM:(c+x[k]+y[k]).tmod 1000=mm at*
  generalize hQ:(c+x[k]+y[k]).tdiv 1000=dd at*
  (conv=>whnf);repeat' (first|(rw [hM];conv=>whnf)|(rw [hQ];conv=>whnf)|(refine kA ?_;conv=>whnf)|(refine Br.mk (fun hc=>?_) fun hc=>?_<;>first|exact hc.elim|conv=>whnf)|(refine kB ?_))
  all_goals first
   |(exfalso;omega)
   |exact again.mk ⟨_,by omega,k+1,dd,_,rfl,by omega,by omega,by omega,hset,hv2,hz2,rfl,rfl⟩
 ·obtain rfl:k=x.length:=by omega
  rw[List.drop_eq_nil_of_le (by omega),List.drop_eq_nil_of_le (by omega)]at hv
  have hvl:val l=V:=by
   have hn:=FP hl.2
   rw[hxl]at hv
   have:pw 14=1000000000000000000000000000000000000000000:=by decide
   rw[this]at hv
   have h0:val []=0:=rfl
   rw[h0]at hv
   omega
  clear hv
  have hsub:sub (ints l) 0 x.length=ints l:=by
   have:=@uI l
   rwa [hl.1,←hxl]at this
  (conv=>whnf);repeat' (first|(refine AU hsub ?_;conv=>whnf)|(refine Ak ⟨rfl,by rw[lI,hl.1];omega⟩ ?_;conv=>whnf)|(refine kA ?_;conv=>whnf)|(refine Br.mk (fun hc=>?_) fun hc=>?_<;>first|exact hc.elim|conv=>whnf)|(refine kB ?_))
  all_goals first
   |(exfalso;omega)
   |(refine ⟨l,?_,hl,hvl⟩;first|rfl|(rw [hsub];rfl))
theorem Aip {x:List Int} {d:Nat} (hx:QB x) (hd0:0<d) (hd:d≤F9):Ah (Ac tab) 46 [Xj true x,.int .i64 d] (fun v=>∃l r,v=.Ce [Xj true l,.int .i64 r]∧QB l∧0≤r∧r<d∧val x=val l*d+r):=by
 have hxl:=hx.1
 unfold F9 at hd
 refine Ad rfl rfl ?_
 (conv=>whnf);repeat' (first  |(refine kA ?_;conv=>whnf)|(refine Br.mk (fun hc=>?_) fun hc=>?_<;>first|exact hc.elim|conv=>whnf)|(refine kB ?_))
 refine Ai (fun m env s=>∃(k:Nat) (z r:Int) (l:List Int),m=k∧z=(k:Int)-1∧k≤14∧0≤r∧r<d∧QB l∧val (x.drop k)=val (l.drop k)*d+r∧env=[(0,Xj true x),(1,.int .i64 d),(6,.own 0 0 0 x.length),(7,.int .i64 r),(8,.int .i64 z)]∧s=⟨[.arr 0 1 true true (ints l)],1⟩) ?_ _ _ _ ⟨14,_,0,List.replicate x.length 0,rfl,?_,by omega,by omega,by omega,⟨by simp[hxl],by intro z hz;have:=List.eq_of_mem_replicate hz;omega⟩,by rw[List.drop_eq_nil_of_le (by omega),List.drop_eq_nil_of_le (by simp;omega)];show(0:Int)=0*d+0;omega,by first|rfl|simp,rfl⟩
 rotate_left
 ·omega
 rintro k _ _ ⟨_,z,r,l,rfl,hz,hk,r0,r1,hl,hv,rfl,rfl⟩
 refine⟨rfl,?_⟩
 have hll:=hl.1
 cases k with
 |zero=>
  have hsub:sub (ints l) 0 x.length=ints l:=by
   have:=@uI l
   rwa [hl.1,←hxl]at this
  obtain rfl:z=-1:=by omega
  (conv=>whnf);repeat' (first|(refine AU hsub ?_;conv=>whnf)|(refine Ak ⟨rfl,by rw[lI,hl.1];omega⟩ ?_;conv=>whnf)|(refine kA ?_;conv=>whnf)|(refine Br.mk (fun hc=>?_) fun hc=>?_<;>first|exact hc.elim|conv=>whnf)|(refine kB ?_))
  all_goals first
   |(exfalso;omega)
   |(refine ⟨l,r,?_,hl,r0,r1,hv⟩;first|rfl|(rw [hsub];rfl))
 |succ k=>
  obtain rfl:z=(k:Nat):=by omega
  have hlt:k<x.length:=by omega
  have hkl:k<l.length:=by omega
  have bx:0≤x[k]∧x[k]≤999:=hx.2 _ (List.getElem_mem hlt)
  have hn:0≤r*1000+x[k]:=by omega
  have hb:r*1000+x[k]<d*1000:=by omega
  have hq0:0≤(r*1000+x[k]).tdiv d:=Int.tdiv_nonneg hn (by omega)
  have hqe:(r*1000+x[k]).tdiv d=(r*1000+x[k]) / d:=Int.tdiv_eq_ediv_of_nonneg hn
  have hme:(r*1000+x[k]).tmod d=(r*1000+x[k]) % d:=Int.tmod_eq_emod_of_nonneg hn
  have hq1:(r*1000+x[k]).tdiv d≤999:=by
   rw[hqe]
   have:=Int.ediv_lt_of_lt_mul (a:=r*1000+x[k]) (b:=1000) (c:=d) (by omega) (by rw[Int.mul_comm 1000 (d:Int)];exact hb)
   omega
  have hm0:0≤(r*1000+x[k]).tmod d:=by rw[hme];exact Int.emod_nonneg _ (by omega)
  have hm1:(r*1000+x[k]).tmod d<d:=by rw[hme];exact Int.emod_lt_of_pos _ (by omega)
  have hqm:r*1000+x[k]=(r*1000+x[k]).tdiv d*d+(r*1000+x[k]).tmod d:=by
   rw[hqe,hme,Int.mul_comm ((r*1000+x[k]) / (d:Int)) (d:Int)];exact(Int.mul_ediv_add_emod _ _).symm
  have hset:QB (l.set k ((r*1000+x[k]).tdiv d)):=⟨by rw[List.length_set];exact hl.1,fun z hz=>by
   rcases List.mem_or_eq_of_mem_set hz with h|h
   ·exact hl.2 z h
   ·rw[h];exact⟨hq0,hq1⟩⟩
  have hv2:val (x.drop k)=val ((l.set k ((r*1000+x[k]).tdiv d)).drop k)*d+(r*1000+x[k]).tmod d:=by
   rw[JR hlt,JR (l:=l.set k _) (by rw[List.length_set];exact hkl),List.getElem_set_self,List.drop_set_of_lt (by omega),hv]
   generalize (r*1000+x[k]).tdiv d=q at*
   generalize (r*1000+x[k]).tmod d=mm at*
   generalize val (l.drop (k+1))=L at*
   rw[Int.add_mul,Int.mul_add,←Int.mul_assoc]
   omega
  generalize hQ:(r*1000+x[k]).tdiv d=q at*
  generalize hM:(r*1000+x[k]).tmod d=mm at*
  (conv=>whnf);repeat' (first|(rw [hQ];conv=>whnf)|(rw [hM];conv=>whnf)|(refine kA ?_;conv=>whnf)|(refine Br.mk (fun hc=>?_) fun hc=>?_<;>first|exact hc.elim|conv=>whnf)|(refine kB ?_))
  all_goals first
   |(exfalso;omega)
   |exact again.mk ⟨_,by omega,k,_,mm,_,rfl,by omega,by omega,hm0,hm1,hset,hv2,rfl,rfl⟩
theorem Af8 {x:List Int} (hx:QB x):Ah (Ac tab) 47 [Xj true x] (· =if val x≤1000000000000000 then .Ce [.int .i64 (val x),.bool true]else .Ce [.int .i64 0,.bool false]):=by
 have hxl:=hx.1
 refine Ad rfl rfl ?_
 (conv=>whnf);repeat' (first  |(refine kA ?_;conv=>whnf)|(refine Br.mk (fun hc=>?_) fun hc=>?_<;>first|exact hc.elim|conv=>whnf)|(refine kB ?_))
 refine Ai (fun m env s=>∃(k:Nat) (z n:Int),m=k∧z=(k:Int)-1∧k≤14∧n=val (x.drop k)∧n≤1000000000000999∧env=[(0,Xj true x),(4,.int .i64 n),(5,.int .i64 z)]∧s=⟨[],0⟩) ?_ _ _ _ ⟨14,_,0,rfl,?_,by omega,by rw[List.drop_eq_nil_of_le (by omega)];rfl,by omega,rfl,rfl⟩
 rotate_left
 ·omega
 rintro k _ _ ⟨_,z,n,rfl,hz,hk,hn,hnb,rfl,rfl⟩
 refine⟨rfl,?_⟩
 cases k with
 |zero=>
  obtain rfl:z=-1:=by omega
  rw[List.drop_zero]at hn
  subst hn
  by_cases h:val x≤1000000000000000
  ·rw[if_pos h]
   (conv=>whnf);repeat' (first  |(refine kA ?_;conv=>whnf)|(refine Br.mk (fun hc=>?_) fun hc=>?_<;>first|exact hc.elim|conv=>whnf)|(refine kB ?_))
   all_goals first|rfl|(exfalso;omega)
  ·rw[if_neg h]
   (conv=>whnf);repeat' (first  |(refine kA ?_;conv=>whnf)|(refine Br.mk (fun hc=>?_) fun hc=>?_<;>first|exact hc.elim|conv=>whnf)|(refine kB ?_))
   all_goals first|rfl|(exfalso;omega)
 |succ k=>
  obtain rfl:z=(k:Nat):=by omega
  have hlt:k<x.length:=by omega
  have bx:0≤x[k]∧x[k]≤999:=hx.2 _ (List.getElem_mem hlt)
  have hn0:0≤n:=by rw[hn];exact FP fun y hy=>hx.2 y (List.mem_of_mem_drop hy)
  have hd:=JR hlt
  rw[← hn]at hd
  by_cases h:1000000000000<n
  ·have hbig:¬val x≤1000000000000000:=fun hle=>by
        have hm:∀j,j≤k→val (x.drop k)≤val (x.drop (k-j)):=fun j=>by
         induction j with
         |zero=>intro _;exact Int.le_refl _
         |succ j ih=>
          intro hj
          have h1:=ih (by omega)
          have h2:=JR (l:=x) (k:=k-(j+1)) (by omega)
          rw[show k-(j+1)+1=k-j by omega]at h2
          have h3:0≤x[k-(j+1)]'(by omega):=(hx.2 _ (List.getElem_mem _)).1
          have h4:0≤val (x.drop (k-j)):=FP fun y hy=>hx.2 y (List.mem_of_mem_drop hy)
          omega
        have:=hm k (Nat.le_refl k)
        rw[Nat.sub_self,List.drop_zero]at this
        omega
   rw[if_neg hbig]
   (conv=>whnf);repeat' (first  |(refine kA ?_;conv=>whnf)|(refine Br.mk (fun hc=>?_) fun hc=>?_<;>first|exact hc.elim|conv=>whnf)|(refine kB ?_))
   all_goals first|rfl|(exfalso;omega)
  ·(conv=>whnf);repeat' (first  |(refine kA ?_;conv=>whnf)|(refine Br.mk (fun hc=>?_) fun hc=>?_<;>first|exact hc.elim|conv=>whnf)|(refine kB ?_))
   all_goals first
        |(exfalso;omega)
        |exact again.mk ⟨_,by omega,k,_,_,rfl,by omega,by omega,by rw[hd];omega,by omega,rfl,rfl⟩
theorem AaZ {x:List Int} {t d:Nat} (hx:QB x) (hv:val x=(t:Nat)) (hd0:0<d) (hd:d≤F9):Ah (Ac tab) 46 [Xj true x,.int .i64 d] (fun v=>∃l,v=.Ce [Xj true l,.int .i64 ((t % d:Nat):Int)]∧QB l∧val l=((t / d:Nat):Int)):=by
 refine(Aip hx hd0 hd).mono ?_
 rintro _ ⟨l,r,rfl,hl,r0,r1,he⟩
 have hl0:=FP hl.2
 obtain⟨q,hq⟩:∃q:Nat,val l=q:=⟨(val l).toNat,by omega⟩
 obtain⟨k,rfl⟩:∃k:Nat,r=k:=⟨r.toNat,by omega⟩
 rw[hv,hq,←Int.natCast_mul,←Int.natCast_add]at he
 have he:t=q*d+k:=by exact_mod_cast he
 have h1:t / d=q:=by
  rw[he,Nat.mul_comm,Nat.mul_add_div hd0,Nat.div_eq_of_lt (by omega)];rfl
 have h2:t % d=k:=by
  rw[he,Nat.mul_comm,Nat.mul_add_mod,Nat.mod_eq_of_lt (by omega)]
 exact⟨l,by rw[h2],hl,by rw[h1,hq]⟩
theorem Aa0 {x:List Int} {t:Nat} (hx:QB x) (hv:val x=(t:Nat)):Ah (Ac tab) 47 [Xj true x] (· =if t≤F9 then .Ce [.int .i64 (t:Int),.bool true]else .Ce [.int .i64 0,.bool false]):=by
 have h:=Af8 hx
 rw[hv]at h
 unfold F9
 by_cases c:t≤1000000000000000
 ·rw[if_pos (by omega)]at h;rw[if_pos c];exact h
 ·rw[if_neg (by omega)]at h;rw[if_neg c];exact h
theorem ZO {a b:Nat} (ha:a≤F9) (hb:b≤F9):Ah (Ac tab) 44 [.int .i64 a,.int .i64 b] (fun v=>∃l,v=Xj true l∧QB l∧val l=((a*b:Nat):Int)):=by
 unfold F9 at*
 refine(Aig (a:=(a:Int)) (b:=(b:Int)) (by omega) (by omega)).mono ?_
 rintro _ ⟨l,rfl,h1,h2⟩
 exact⟨l,rfl,h1,by rw[h2,Int.natCast_mul]⟩
theorem Akh {x y:List Int} {p q:Nat} (hx:QB x) (hy:QB y) (ex:val x=(p:Nat)) (ey:val y=(q:Nat)) (hb:p+q<1000000000000000000000000000000000000000):Ah (Ac tab) 42 [.int .i64 (if p=0 then 0 else 1),Xj true x,.int .i64 (if q=0 then 0 else 1),Xj true y] (fun v=>∃l,v=.Ce [.int .i64 (if p+q=0 then 0 else 1),Xj true l]∧QB l∧val l=((p+q:Nat):Int)):=by
 obtain⟨_,⟨l,rfl,h1,h2⟩,hp⟩:=(Akg hx hy (by rw[ex,ey];omega)).YI
 have h2:val l=((p+q:Nat):Int):=by rw[h2,ex,ey];omega
 by_cases hp0:p=0<;>by_cases hq0:q=0
 all_goals (simp only[hp0,hq0,if_true,if_false])
 ·refine Ad rfl rfl ?_
  (conv=>whnf);repeat' (first|(refine Aa hp ?_;rintro _ rfl;conv=>whnf)|(refine kA ?_;conv=>whnf)|(refine Br.mk (fun hc=>?_) fun hc=>?_<;>first|exact hc.elim|conv=>whnf)|(refine kB ?_))
  all_goals first|exact⟨l,rfl,h1,by rw[h2,hp0,hq0]⟩|(exfalso;omega)
 ·have e:(if 0+q=0 then(0:Int)else 1)=1:=if_neg (by omega)
  rw[e]
  refine Ad rfl rfl ?_
  (conv=>whnf);repeat' (first|(refine Aa hp ?_;rintro _ rfl;conv=>whnf)|(refine kA ?_;conv=>whnf)|(refine Br.mk (fun hc=>?_) fun hc=>?_<;>first|exact hc.elim|conv=>whnf)|(refine kB ?_))
  all_goals first|exact⟨y,rfl,hy,by rw[ey];simp⟩|(exfalso;omega)
 ·have e:(if p+0=0 then(0:Int)else 1)=1:=if_neg (by omega)
  rw[e]
  refine Ad rfl rfl ?_
  (conv=>whnf);repeat' (first|(refine Aa hp ?_;rintro _ rfl;conv=>whnf)|(refine kA ?_;conv=>whnf)|(refine Br.mk (fun hc=>?_) fun hc=>?_<;>first|exact hc.elim|conv=>whnf)|(refine kB ?_))
  all_goals first|exact⟨l,rfl,h1,by rw[h2,hq0]⟩|(exfalso;omega)
 ·have e:(if p+q=0 then(0:Int)else 1)=1:=if_neg (by omega)
  rw[e]
  refine Ad rfl rfl ?_
  (conv=>whnf);repeat' (first|(refine Aa hp ?_;rintro _ rfl;conv=>whnf)|(refine kA ?_;conv=>whnf)|(refine Br.mk (fun hc=>?_) fun hc=>?_<;>first|exact hc.elim|conv=>whnf)|(refine kB ?_))
  all_goals first|exact⟨l,rfl,h1,h2⟩|(exfalso;omega)
set_option maxHeartbeats 4000000 in
theorem AjV {x y:Nat×Nat} (hx:Uw x) (hy:Uw y):Ah (Ac tab) 15 [fv x,fv y] (· =Vh (addN x y)):=by
 obtain⟨a,b⟩:=x
 obtain⟨c,d⟩:=y
 have v1:Ah (Ac tab) 40 [fv (a,b)] (· =.bool true):=by have:=fvR (n:=(a:Int)) (d:=(b:Int));rwa [decide_eq_true (vnF hx)]at this
 have v2:Ah (Ac tab) 40 [fv (c,d)] (· =.bool true):=by have:=fvR (n:=(c:Int)) (d:=(d:Int));rwa [decide_eq_true (vnF hy)]at this
 obtain⟨hb1,hb2,ha,_⟩:=hx
 obtain⟨hd1,hd2,hc,_⟩:=hy
 dsimp only at*
 have gP:=Af5 (a:=b) (b:=d) (by unfold F9 at *;omega) (by unfold F9 at *;omega)
 have hg:0<Nat.gcd b d:=Nat.gcd_pos_of_pos_right b hd1
 have hgl:Nat.gcd b d≤d:=Nat.gcd_le_right b hd1
 unfold addN Xl VK
 dsimp only
 have hgb:Nat.gcd b d≤b:=Nat.gcd_le_left d hb1
 generalize Nat.gcd b d=g at*
 have k1:=UG b g
 have k2:=UG d g
 have hb':b / g≤b:=Nat.div_le_self _ _
 have hd':d / g≤d:=Nat.div_le_self _ _
 have hB0:0<b / g:=Nat.div_pos hgb hg
 have hD0:0<d / g:=by
  refine Nat.div_pos ?_ hg
  exact hgl
 generalize b / g=B at*
 generalize d / g=D at*
 have hBM:B≤F9:=by omega
 have hDM:D≤F9:=by omega
 have sa:=WU (Hl ha)
 have sc:=WU (Hl hc)
 simp only[Int.natAbs_natCast]at sa sc
 have ga:Ah (Ac tab) 43 [.int .i64 (a:Int)] (· =.int .i64 (if a*D=0 then 0 else 1)):=by
  have h:=sign (n:=(a:Int))
  have e:sgn (a:Int)=if a*D=0 then 0 else 1:=by
   by_cases h0:a=0
   ·subst h0;simp;rfl
   ·have:=Nat.mul_pos (show 0<a by omega) hD0
    rw[if_neg (by omega)]
    exact AaP (by omega)
  rwa [e]at h
 have gc:Ah (Ac tab) 43 [.int .i64 (c:Int)] (· =.int .i64 (if c*B=0 then 0 else 1)):=by
  have h:=sign (n:=(c:Int))
  have e:sgn (c:Int)=if c*B=0 then 0 else 1:=by
   by_cases h0:c=0
   ·subst h0;simp;rfl
   ·have:=Nat.mul_pos (show 0<c by omega) hB0
    rw[if_neg (by omega)]
    exact AaP (by omega)
  rwa [e]at h
 obtain⟨_,⟨l1,rfl,x1,x2⟩,t1⟩:=(ZO ha hDM).YI
 obtain⟨_,⟨l2,rfl,y1,y2⟩,t2⟩:=(ZO hc hBM).YI
 have m1:a*D≤1000000000000000*1000000000000000:=Nat.mul_le_mul ha hDM
 have m2:c*B≤1000000000000000*1000000000000000:=Nat.mul_le_mul hc hBM
 generalize a*D=X at*
 generalize c*B=Y at*
 obtain⟨_,⟨l3,rfl,z1,z2⟩,hs⟩:=(Akh x1 y1 x2 y2 (by omega)).YI
 obtain⟨sX,hsX⟩:∃z:Int,z=(if X=0 then 0 else 1):=⟨_,rfl⟩
 obtain⟨sY,hsY⟩:∃z:Int,z=(if Y=0 then 0 else 1):=⟨_,rfl⟩
 rw[← hsX]at ga hs
 rw[← hsY]at gc hs
 clear hsX hsY
 obtain⟨t,ht⟩:∃t,X+Y=t:=⟨_,rfl⟩
 rw[ht]at hs z2 ⊢
 by_cases ht0:t=0
 ·rw[if_pos ht0]at hs ⊢
  unfold F9 at*
  refine Ad rfl rfl ?_
  (conv=>whnf);repeat' (first|((first|refine Aa v1 ?_|refine Aa v2 ?_|refine Aa gP ?_);rintro _ rfl;conv=>whnf)|(rw [k1];conv=>whnf)|(rw [k2];conv=>whnf)|((first|refine Aa ga ?_|refine Aa gc ?_|refine Aa sa ?_|refine Aa sc ?_|refine Aa t1 ?_|refine Aa t2 ?_|refine Aa hs ?_);rintro _ rfl;conv=>whnf)|(refine kA ?_;conv=>whnf)|(refine Br.mk (fun hc=>?_) fun hc=>?_<;>first|exact hc.elim|conv=>whnf)|(refine kB ?_))
  all_goals first|rfl|(exfalso;omega)
 rw[if_neg ht0]at hs ⊢
 obtain⟨_,⟨l4,rfl,w1,w2⟩,pg⟩:=(AaZ z1 z2 hg (show g≤F9 by omega)).YI
 have hr:=Nat.mod_lt t hg
 have g2:=Af5 (a:=g) (b:=t % g) (by unfold F9 at *;omega) (by unfold F9 at *;omega)
 rw[show Nat.gcd g (t % g)=Nat.gcd t g by rw[Nat.gcd_comm,←Nat.gcd_rec,Nat.gcd_comm]]at g2
 generalize t % g=r at*
 have hh:0<Nat.gcd t g:=Nat.gcd_pos_of_pos_right t hg
 have hhl:Nat.gcd t g≤g:=Nat.gcd_le_right t hg
 generalize Nat.gcd t g=h at*
 obtain⟨_,⟨l5,rfl,u1,u2⟩,ph⟩:=(AaZ z1 z2 hh (show h≤F9 by omega)).YI
 have k3:=UG d h
 have hE:d / h≤d:=Nat.div_le_self _ _
 generalize d / h=E at*
 have nq:=Aa0 u1 u2
 obtain⟨_,⟨l6,rfl,o1,o2⟩,t3⟩:=(ZO hBM (show E≤F9 by omega)).YI
 have nd:=Aa0 o1 o2
 generalize t / h=n at*
 generalize t % h=r2 at*
 generalize B*E=q at*
 unfold F9 at*
 obtain⟨R,hR⟩:∃R,R=(if n≤1000000000000000∧q≤1000000000000000 then some (n,q)else none):=⟨_,rfl⟩
 rw[← hR]
 clear m1 m2 x2 y2 z2 w2 u2 o2 ht
 by_cases c1:n≤1000000000000000<;>by_cases c2:q≤1000000000000000
 all_goals (
  simp only[c1,c2,and_self,and_true,and_false,if_true,if_false]at hR nq nd
  subst hR
  refine Ad rfl rfl ?_
  (conv=>whnf);repeat' (first|(rw [show (1:Int)*(n:Int)=n from Int.one_mul _];conv=>whnf)|((first|refine Aa v1 ?_|refine Aa v2 ?_|refine Aa gP ?_);rintro _ rfl;conv=>whnf)|(rw [k1];conv=>whnf)|(rw [k2];conv=>whnf)|(rw [k3];conv=>whnf)|((first|refine Aa ga ?_|refine Aa gc ?_|refine Aa sa ?_|refine Aa sc ?_|refine Aa t1 ?_|refine Aa t2 ?_|refine Aa hs ?_|refine Aa pg ?_|refine Aa ph ?_|refine Aa g2 ?_|refine Aa nq ?_|refine Aa t3 ?_|refine Aa nd ?_);rintro _ rfl;conv=>whnf)|(refine kA ?_;conv=>whnf)|(refine Br.mk (fun hc=>?_) fun hc=>?_<;>first|exact hc.elim|conv=>whnf)|(refine kB ?_)))
 all_goals first|rfl|(exfalso;omega)
theorem Ab1 {x:Nat×Nat} (hx:Uw x):addN x (0,1)=some x:=by
 obtain⟨a,b⟩:=x
 obtain⟨h1,h2,h3,h4⟩:=hx
 dsimp only at*
 unfold addN Xl VK
 simp only[Nat.gcd_one_right,Nat.div_one,Nat.mul_one,Nat.zero_mul,Nat.add_zero]
 by_cases h0:a=0
 ·subst h0
  rw[Nat.gcd_zero_left]at h4
  rw[if_pos rfl,h4]
 ·rw[if_neg h0,if_pos ⟨h3,h2⟩]
theorem Ahe {g:GG} (hg:g.ok) {id:Int}:Ah (Ac tab) 32 [g.av,.int .i64 id] (· =.int .i64 (if id∈Ba g then(JA g id:Int)else -1)):=by
 have hl:=hg.1
 unfold Ln at hl
 refine Ad rfl rfl ?_
 (conv=>whnf);repeat' (first  |(refine kA ?_;conv=>whnf)|(refine Br.mk (fun hc=>?_) fun hc=>?_<;>first|exact hc.elim|conv=>whnf)|(refine kB ?_))
 refine Ai (fun m env s=>∃(i c:Nat),m=g.nodes.length-i∧i≤g.nodes.length∧(∀ k,∀h:k<g.nodes.length,k<i→(g.nodes[k]).id≠id)∧env=[(1,.int .i64 id),(2,.ref 0 0 0 0),(5,.int .i64 i)]∧s=⟨[.arr 0 4 true true [g.av]],c⟩) ?_ _ _ _ ⟨0,_,rfl,by omega,fun k h hk=>by omega,rfl,rfl⟩
 rintro _ _ _ ⟨i,c,rfl,hi,hno,rfl,rfl⟩
 refine⟨rfl,?_⟩
 by_cases hlt:i<g.nodes.length
 ·by_cases he:(g.nodes[i]).id=id
  ·have hm:id∈Ba g:=by rw[← he,←Gg hlt];exact List.getElem_mem _
   have hix:JA g id=i:=by
        have h1:=KW hm
        have h2:=Rz hm
        rw[Js h1]at h2
        by_cases h3:JA g id<i
        ·exact absurd h2 (hno _ h1 h3)
        ·
         have h4:(Ba g).idxOf id≤i:=by
          by_cases h5:(Ba g).idxOf id≤i
          ·exact h5
          ·have h6:=List.not_of_lt_findIdx (p:=fun x=>x==id) (xs:=Ba g) (i:=i) (by
            show i<(Ba g).findIdx (· ==id)
            have:(Ba g).idxOf id=(Ba g).findIdx (· ==id):=rfl
            omega)
           rw[Gg hlt,he]at h6
           simp at h6
         have:JA g id≤i:=h4
         omega
   rw[if_pos hm,hix]
   (conv=>whnf);repeat' (first  |(refine kA ?_;conv=>whnf)|(refine Br.mk (fun hc=>?_) fun hc=>?_<;>first|exact hc.elim|conv=>whnf)|(refine kB ?_))
   all_goals first|rfl|(exfalso;omega)
  ·(conv=>whnf);repeat' (first  |(refine kA ?_;conv=>whnf)|(refine Br.mk (fun hc=>?_) fun hc=>?_<;>first|exact hc.elim|conv=>whnf)|(refine kB ?_))
   all_goals first
        |(exfalso;omega)
        |exact again.mk ⟨_,by omega,i+1,_,rfl,by omega,fun k h hk=>by
          by_cases e:k=i
          ·subst e;exact he
          ·exact hno k h (by omega),rfl,rfl⟩
 ·have hm:id∉Ba g:=fun hm=>by
   have h1:=KW hm
   have h2:=Rz hm
   rw[Js h1]at h2
   exact hno _ h1 (by omega) h2
  rw[if_neg hm]
  (conv=>whnf);repeat' (first  |(refine kA ?_;conv=>whnf)|(refine Br.mk (fun hc=>?_) fun hc=>?_<;>first|exact hc.elim|conv=>whnf)|(refine kB ?_))
  all_goals first|rfl|(exfalso;omega)
theorem Xk {types:List (List UInt8)} {g:GG}:MZ (Gs types g)=DI types g:=rfl
theorem RD {types:List (List UInt8)} {g:GG}:(Gs types g).length=g.nodes.length:=by unfold Gs;rw[List.length_map]
set_option maxHeartbeats 4000000 in
theorem Ahf {g:GG} (hg:g.ok) (hN:g.nodes.length≤12) {types:List (List UInt8)} {tn:Bool} (ht:types.length<2^63) {id:Int}:Ah (Ac tab) 10 [g.av,.sl tn (vs .str types),.int .i64 id] (· =clG types g id):=by
 have pk:=AcD hg
 have pi:=Ahe hg (id:=id)
 unfold clG
 by_cases hck:Bd g=0
 case neg=>
  rw[if_neg (fun h=>hck h.1)]
  generalize Bd g=e0 at pk hck
  generalize (if id∈Ba g then(JA g id:Int)else -1)=z at pi
  refine Ad rfl rfl ?_
  (conv=>whnf);repeat' (first|((first|refine Aa pk ?_|refine Aa pi ?_);rintro _ rfl;conv=>whnf)|(refine kA ?_;conv=>whnf)|(refine Br.mk (fun hc=>?_) fun hc=>?_<;>first|exact hc.elim|conv=>whnf)|(refine kB ?_))
  all_goals first|rfl|(exfalso;omega)
 rw[hck]at pk
 by_cases hm:id∈Ba g
 case neg=>
  rw[if_neg (fun h=>hm h.2)]
  rw[if_neg hm]at pi
  refine Ad rfl rfl ?_
  (conv=>whnf);repeat' (first|((first|refine Aa pk ?_|refine Aa pi ?_);rintro _ rfl;conv=>whnf)|(refine kA ?_;conv=>whnf)|(refine Br.mk (fun hc=>?_) fun hc=>?_<;>first|exact hc.elim|conv=>whnf)|(refine kB ?_))
  all_goals first|rfl|(exfalso;omega)
 rw[if_pos ⟨hck,hm⟩]
 rw[if_pos hm]at pi
 have hlt:=KW hm
 have pT:=AcE (tn:=tn) hg (by omega:g.nodes.length≤1000) ht
 have pt:=Agw (tn:=decide (0<g.nodes.length)) (Z9 (types:=types) (by omega:g.nodes.length≤1000)) RD hN hlt
 rw[Xk]at pt
 unfold Es at pt
 have hb:∀v,v<g.nodes.length→EG (DI types g) g.nodes.length (JA g id) v<(g.nodes.length:Nat):=fun v hv=>PO hlt hv
 generalize (ints (Dj g.nodes.length fun v=>(Et (DI types g) g.nodes.length (JA g id) v:Int)))=PL at pt
 generalize EG (DI types g) g.nodes.length (JA g id)=f at*
 generalize JA g id=ii at*
 have hT:(Dj g.nodes.length f).length=g.nodes.length:=Jb
 generalize vs UL (Gs types g)=TT at pT pt
 refine Ad rfl rfl ?_
 (conv=>whnf);repeat' (first|((first|refine Aa pk ?_|refine Aa pi ?_|refine Aa pT ?_|refine Aa pt ?_);rintro _ rfl;conv=>whnf)|(refine kA ?_;conv=>whnf)|(refine Br.mk (fun hc=>?_) fun hc=>?_<;>first|exact hc.elim|conv=>whnf)|(refine kB ?_))
 all_goals first|(exfalso;omega)|skip
 refine Ai (fun m env s=>∃(k c:Nat),m=g.nodes.length-k∧k≤g.nodes.length∧env=[(6,.ref 1 1 0 0),(9,.ref 2 2 0 0),(10,.int .i64 ((PE f k).1:Nat)),(11,.int .i64 ((PE f k).2:Nat)),(12,.int .i64 k)]∧s=⟨[.arr 0 4 true true [g.av],.arr 1 2 true true [.agg [.int .i64 0,.int .i64 0]],.arr 2 3 true true [.agg [.sl true (ints (Dj g.nodes.length f)),.sl true PL,.bool false]]],c⟩) ?_ _ _ _ ⟨0,_,rfl,by omega,rfl,rfl⟩
 rintro _ _ _ ⟨k,c,rfl,hk,rfl,rfl⟩
 refine⟨rfl,?_⟩
 obtain⟨b1,b2,b3⟩:=YO hb hk
 have b4:k*g.nodes.length≤12*12:=Nat.mul_le_mul (by omega) hN
 by_cases hkl:k<g.nodes.length
 ·have aF:(Dj g.nodes.length f)[k]'(by rw[hT];exact hkl)=f k:=BM _
  have hfb:=hb k hkl
  have hs:PE f (k+1)=if 0<f k then((PE f k).1+1,(PE f k).2+(f k).toNat)else PE f k:=rfl
  by_cases h0:0<f k
  ·rw[if_pos h0]at hs
   (conv=>whnf);repeat' (first  |(refine kA ?_;conv=>whnf)|(refine Br.mk (fun hc=>?_) fun hc=>?_<;>first|exact hc.elim|conv=>whnf)|(refine kB ?_))
   all_goals first
        |(exfalso;omega)
        |(refine again.mk ⟨_,by omega,k+1,_,rfl,by omega,?_,rfl⟩
          rw[hs]
          dsimp only
          rw[show ((((PE f k).2+(f k).toNat:Nat)):Int)=((PE f k).2:Int)+(Dj g.nodes.length f)[k]'(by rw[hT];exact hkl) by omega]
          rfl)
  ·rw[if_neg h0]at hs
   (conv=>whnf);repeat' (first  |(refine kA ?_;conv=>whnf)|(refine Br.mk (fun hc=>?_) fun hc=>?_<;>first|exact hc.elim|conv=>whnf)|(refine kB ?_))
   all_goals first
        |(exfalso;omega)
        |exact again.mk ⟨_,by omega,k+1,_,rfl,by omega,by rw[hs];rfl,rfl⟩
 ·obtain rfl:k=g.nodes.length:=by omega
  unfold clV
  generalize PE f g.nodes.length=P at*
  obtain⟨r,d⟩:=P
  dsimp only at*
  by_cases hr:r=0
  ·subst hr
   rw[if_pos rfl]
   (conv=>whnf);repeat' (first  |(refine kA ?_;conv=>whnf)|(refine Br.mk (fun hc=>?_) fun hc=>?_<;>first|exact hc.elim|conv=>whnf)|(refine kB ?_))
   all_goals first
        |(exfalso;omega)
        |rfl
  ·rw[if_neg hr]
   have po:=ofR (a:=r) (b:=d) (by unfold F9;omega) (by unfold F9;omega) (b3 (by omega))
   generalize KN r d=L at po
   (conv=>whnf);repeat' (first|(refine Aa po ?_;rintro _ rfl;conv=>whnf)|(refine kA ?_;conv=>whnf)|(refine Br.mk (fun hc=>?_) fun hc=>?_<;>first|exact hc.elim|conv=>whnf)|(refine kB ?_))
   all_goals first
        |(exfalso;omega)
        |rfl
end AI
end Go.Proofs.YtchcadfjbkkgmaaGreatDoor
