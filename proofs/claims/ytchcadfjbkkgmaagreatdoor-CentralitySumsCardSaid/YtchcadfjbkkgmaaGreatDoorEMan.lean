/- frac.Of, frac.Add of the reference. One edge more: how the counts change. The list of triangles by the relation; after a change of one edge. The reference's Weak. Labels: two edges are joined in either order. Plain. Lists in the order of a key, looked up by key: plain. What a change leaves alone: plain. Changes as arguments. Looking for the first. The reference looks up nodes and edges. Looking for the first: good properties. Small values. A value cloned reads as the value. Clones: they read as what was cloned. The program looks up nodes and edges. Valid values, exactly: the program's. Valid values, exactly: the reference's. Numbers among values. The null value. The program's order of a value and null. The order of values: plain. Properties looked up. Scripts between graphs: what they are, in plain lists. The reference's order of a value and null. The order of values: the program's walks. The order of values: the reference's walks. Graphs alike: the program's way and the reference's. Looking up a key in nodes: slices.BinarySearchFunc, on memory that stays. Looking up a key in edges: slices.BinarySearchFunc, on memory that stays. -/
import Derived.Test.YtchcadfjbkkgmaaGreatDoorEMal
import Derived.Test.YtchcadfjbkkgmaaGreatDoorEMaj
import Derived.Test.YtchcadfjbkkgmaaGreatDoorEMah
import Derived.Test.YtchcadfjbkkgmaaGreatDoorEMaf
import Derived.Test.YtchcadfjbkkgmaaGreatDoorEMae
import Derived.Test.YtchcadfjbkkgmaaGreatDoorEMaa
set_option linter.unusedVariables false
set_option maxRecDepth 4000
namespace Go.Proofs.YtchcadfjbkkgmaaGreatDoor
namespace AI
theorem JF {l:List Int} {k:Nat} (h:k<l.length):val (l.drop k)=l[k]+1000*val (l.drop (k+1)):=by
 rw[List.drop_eq_getElem_cons h];rfl
theorem Ajt {x y:List Int} (hx:Qm x) (hy:Qm y) (hs:val x+val y<1000000000000000000000000000000000000000):Ah (Ac tab) 82 [WV true x,WV true y] (fun v=>∃l,v=WV true l∧Qm l∧val l=val x+val y):=by
 have hxl:=hx.1
 have hyl:=hy.1
 have hx0:=FC hx.2
 have hy0:=FC hy.2
 generalize hV:val x+val y=V at*
 refine Ae rfl rfl ?_
 (conv=>whnf);repeat' (first  |(refine kA ?_;conv=>whnf)|(refine Br.mk (fun hc=>?_) fun hc=>?_<;>first|exact hc.elim|conv=>whnf)|(refine kB ?_))
 refine Aj (fun m env s=>∃(k:Nat) (c:Int) (l:List Int),m=14-k∧k≤14∧0≤c∧c≤1∧Qm l∧val l+(c+val (x.drop k)+val (y.drop k))*pw k=V∧(∀ q (h:q<l.length),k≤q→l[q]=0)∧env=[(0,WV true x),(1,WV true y),(5,.own 0 0 0 x.length),(6,.int .i64 c),(7,.int .i64 k)]∧s=⟨[.arr 0 1 true true (ints l)],1⟩) ?_ _ _ _ ⟨0,0,List.replicate x.length 0,rfl,by omega,by omega,by omega,⟨by simp[hxl],by intro z hz;have:=List.eq_of_mem_replicate hz;omega⟩,by rw[val_zero];show 0+(0+val x+val y)*1=V;omega,fun q h _=>List.getElem_replicate _,by first|rfl|simp,rfl⟩
 rintro _ _ _ ⟨k,c,l,rfl,hk,c0,c1,hl,hv,hz,rfl,rfl⟩
 refine⟨rfl,?_⟩
 by_cases hlt:k<x.length
 ·have hky:k<y.length:=by omega
  have hkl:k<l.length:=by rw[hl.1];omega
  have bx:0≤x[k]∧x[k]≤999:=hx.2 _ (List.getElem_mem hlt)
  have bY:0≤y[k]∧y[k]≤999:=hy.2 _ (List.getElem_mem hky)
  rw[JF hlt,JF hky]at hv
  have e1:=tmE (show 0≤c+x[k]+y[k] by omega)
  have e2:=tdE (show 0≤c+x[k]+y[k] by omega)
  have hm0:0≤(c+x[k]+y[k]).tmod 1000∧(c+x[k]+y[k]).tmod 1000≤999:=by omega
  have hd0:0≤(c+x[k]+y[k]).tdiv 1000∧(c+x[k]+y[k]).tdiv 1000≤1:=by omega
  have hsum:c+x[k]+y[k]=(c+x[k]+y[k]).tmod 1000+1000*(c+x[k]+y[k]).tdiv 1000:=by omega
  have hset:Qm (l.set k ((c+x[k]+y[k]).tmod 1000)):=⟨by rw[List.length_set];exact hl.1,fun z hz=>by
   rcases List.mem_or_eq_of_mem_set hz with h|h
   ·exact hl.2 z h
   ·rw[h];exact hm0⟩
  have hv2:val (l.set k ((c+x[k]+y[k]).tmod 1000))+((c+x[k]+y[k]).tdiv 1000+val (x.drop (k+1))+val (y.drop (k+1)))*pw (k+1)=V:=by
   rw[VX hkl,hz k hkl (Nat.le_refl k),←hv]
   show val l+((c+x[k]+y[k]).tmod 1000-0)*pw k+((c+x[k]+y[k]).tdiv 1000+val (x.drop (k+1))+val (y.drop (k+1)))*(1000*pw k)=_
   rw[← Int.mul_assoc _ 1000,Int.add_assoc,←Int.add_mul]
   congr 2
   omega
  have hz2:∀q (h:q<(l.set k ((c+x[k]+y[k]).tmod 1000)).length),k+1≤q→(l.set k ((c+x[k]+y[k]).tmod 1000))[q]=0:=fun q h hq=>by
   rw[List.getElem_set_ne (by omega)]
   exact hz q (by simpa using h) (by omega)
  clear e1 e2
  generalize hM:(c+x[k]+y[k]).tmod 1000=mm at*
  generalize hQ:(c+x[k]+y[k]).tdiv 1000=dd at*
  (conv=>whnf);repeat' (first|(rw [hM];conv=>whnf)|(rw [hQ];conv=>whnf)|(refine kA ?_;conv=>whnf)|(refine Br.mk (fun hc=>?_) fun hc=>?_<;>first|exact hc.elim|conv=>whnf)|(refine kB ?_))
  all_goals first
   |(exfalso;omega)
   |exact again.mk ⟨_,by omega,k+1,dd,_,rfl,by omega,by omega,by omega,hset,hv2,hz2,rfl,rfl⟩
 ·obtain rfl:k=x.length:=by omega
  rw[List.drop_eq_nil_of_le (by omega),List.drop_eq_nil_of_le (by omega)]at hv
  have hvl:val l=V:=by
   have hn:=FC hl.2
   rw[hxl]at hv
   have:pw 14=1000000000000000000000000000000000000000000:=by decide
   rw[this]at hv
   have h0:val []=0:=rfl
   rw[h0]at hv
   omega
  clear hv
  have hsub:sub (ints l) 0 x.length=ints l:=by
   have:=@uI l
   rwa [hl.1,←hxl]at this
  (conv=>whnf);repeat' (first|(refine A8 hsub ?_;conv=>whnf)|(refine Ap ⟨rfl,by rw[lI,hl.1];omega⟩ ?_;conv=>whnf)|(refine kA ?_;conv=>whnf)|(refine Br.mk (fun hc=>?_) fun hc=>?_<;>first|exact hc.elim|conv=>whnf)|(refine kB ?_))
  all_goals first
   |(exfalso;omega)
   |(refine ⟨l,?_,hl,hvl⟩;first|rfl|(rw [hsub];rfl))
theorem Ahp {x:List Int} {d:Nat} (hx:Qm x) (hd0:0<d) (hd:d≤Hg):Ah (Ac tab) 46 [WV true x,.int .i64 d] (fun v=>∃l r,v=.CP [WV true l,.int .i64 r]∧Qm l∧0≤r∧r<d∧val x=val l*d+r):=by
 have hxl:=hx.1
 unfold Hg at hd
 refine Ae rfl rfl ?_
 (conv=>whnf);repeat' (first  |(refine kA ?_;conv=>whnf)|(refine Br.mk (fun hc=>?_) fun hc=>?_<;>first|exact hc.elim|conv=>whnf)|(refine kB ?_))
 refine Aj (fun m env s=>∃(k:Nat) (z r:Int) (l:List Int),m=k∧z=(k:Int)-1∧k≤14∧0≤r∧r<d∧Qm l∧val (x.drop k)=val (l.drop k)*d+r∧env=[(0,WV true x),(1,.int .i64 d),(6,.own 0 0 0 x.length),(7,.int .i64 r),(8,.int .i64 z)]∧s=⟨[.arr 0 1 true true (ints l)],1⟩) ?_ _ _ _ ⟨14,_,0,List.replicate x.length 0,rfl,?_,by omega,by omega,by omega,⟨by simp[hxl],by intro z hz;have:=List.eq_of_mem_replicate hz;omega⟩,by rw[List.drop_eq_nil_of_le (by omega),List.drop_eq_nil_of_le (by simp;omega)];show(0:Int)=0*d+0;omega,by first|rfl|simp,rfl⟩
 rotate_left
 ·omega
 rintro k _ _ ⟨_,z,r,l,rfl,hz,hk,r0,r1,hl,hv,rfl,rfl⟩
 refine⟨rfl,?_⟩
 have hll:=hl.1
 cases k with
 |zero=>
  have hsub:sub (ints l) 0 x.length=ints l:=by
   have:=@uI l
   rwa [hl.1,←hxl]at this
  obtain rfl:z=-1:=by omega
  (conv=>whnf);repeat' (first|(refine A8 hsub ?_;conv=>whnf)|(refine Ap ⟨rfl,by rw[lI,hl.1];omega⟩ ?_;conv=>whnf)|(refine kA ?_;conv=>whnf)|(refine Br.mk (fun hc=>?_) fun hc=>?_<;>first|exact hc.elim|conv=>whnf)|(refine kB ?_))
  all_goals first
   |(exfalso;omega)
   |(refine ⟨l,r,?_,hl,r0,r1,hv⟩;first|rfl|(rw [hsub];rfl))
 |succ k=>
  obtain rfl:z=(k:Nat):=by omega
  have hlt:k<x.length:=by omega
  have hkl:k<l.length:=by omega
  have bx:0≤x[k]∧x[k]≤999:=hx.2 _ (List.getElem_mem hlt)
  have hn:0≤r*1000+x[k]:=by omega
  have hb:r*1000+x[k]<d*1000:=by omega
  have hq0:0≤(r*1000+x[k]).tdiv d:=Int.tdiv_nonneg hn (by omega)
  have hqe:(r*1000+x[k]).tdiv d=(r*1000+x[k]) / d:=Int.tdiv_eq_ediv_of_nonneg hn
  have hme:(r*1000+x[k]).tmod d=(r*1000+x[k]) % d:=Int.tmod_eq_emod_of_nonneg hn
  have hq1:(r*1000+x[k]).tdiv d≤999:=by
   rw[hqe]
   have:=Int.ediv_lt_of_lt_mul (a:=r*1000+x[k]) (b:=1000) (c:=d) (by omega) (by rw[Int.mul_comm 1000 (d:Int)];exact hb)
   omega
  have hm0:0≤(r*1000+x[k]).tmod d:=by rw[hme];exact Int.emod_nonneg _ (by omega)
  have hm1:(r*1000+x[k]).tmod d<d:=by rw[hme];exact Int.emod_lt_of_pos _ (by omega)
  have hqm:r*1000+x[k]=(r*1000+x[k]).tdiv d*d+(r*1000+x[k]).tmod d:=by
   rw[hqe,hme,Int.mul_comm ((r*1000+x[k]) / (d:Int)) (d:Int)];exact(Int.mul_ediv_add_emod _ _).symm
  have hset:Qm (l.set k ((r*1000+x[k]).tdiv d)):=⟨by rw[List.length_set];exact hl.1,fun z hz=>by
   rcases List.mem_or_eq_of_mem_set hz with h|h
   ·exact hl.2 z h
   ·rw[h];exact⟨hq0,hq1⟩⟩
  have hv2:val (x.drop k)=val ((l.set k ((r*1000+x[k]).tdiv d)).drop k)*d+(r*1000+x[k]).tmod d:=by
   rw[JF hlt,JF (l:=l.set k _) (by rw[List.length_set];exact hkl),List.getElem_set_self,List.drop_set_of_lt (by omega),hv]
   generalize (r*1000+x[k]).tdiv d=q at*
   generalize (r*1000+x[k]).tmod d=mm at*
   generalize val (l.drop (k+1))=L at*
   rw[Int.add_mul,Int.mul_add,←Int.mul_assoc]
   omega
  generalize hQ:(r*1000+x[k]).tdiv d=q at*
  generalize hM:(r*1000+x[k]).tmod d=mm at*
  (conv=>whnf);repeat' (first|(rw [hQ];conv=>whnf)|(rw [hM];conv=>whnf)|(refine kA ?_;conv=>whnf)|(refine Br.mk (fun hc=>?_) fun hc=>?_<;>first|exact hc.elim|conv=>whnf)|(refine kB ?_))
  all_goals first
   |(exfalso;omega)
   |exact again.mk ⟨_,by omega,k,_,mm,_,rfl,by omega,by omega,hm0,hm1,hset,hv2,rfl,rfl⟩
theorem Afg {x:List Int} (hx:Qm x):Ah (Ac tab) 47 [WV true x] (· =if val x≤1000000000000000 then .CP [.int .i64 (val x),.bool true]else .CP [.int .i64 0,.bool false]):=by
 have hxl:=hx.1
 refine Ae rfl rfl ?_
 (conv=>whnf);repeat' (first  |(refine kA ?_;conv=>whnf)|(refine Br.mk (fun hc=>?_) fun hc=>?_<;>first|exact hc.elim|conv=>whnf)|(refine kB ?_))
 refine Aj (fun m env s=>∃(k:Nat) (z n:Int),m=k∧z=(k:Int)-1∧k≤14∧n=val (x.drop k)∧n≤1000000000000999∧env=[(0,WV true x),(4,.int .i64 n),(5,.int .i64 z)]∧s=⟨[],0⟩) ?_ _ _ _ ⟨14,_,0,rfl,?_,by omega,by rw[List.drop_eq_nil_of_le (by omega)];rfl,by omega,rfl,rfl⟩
 rotate_left
 ·omega
 rintro k _ _ ⟨_,z,n,rfl,hz,hk,hn,hnb,rfl,rfl⟩
 refine⟨rfl,?_⟩
 cases k with
 |zero=>
  obtain rfl:z=-1:=by omega
  rw[List.drop_zero]at hn
  subst hn
  by_cases h:val x≤1000000000000000
  ·rw[if_pos h]
   (conv=>whnf);repeat' (first  |(refine kA ?_;conv=>whnf)|(refine Br.mk (fun hc=>?_) fun hc=>?_<;>first|exact hc.elim|conv=>whnf)|(refine kB ?_))
   all_goals first|rfl|(exfalso;omega)
  ·rw[if_neg h]
   (conv=>whnf);repeat' (first  |(refine kA ?_;conv=>whnf)|(refine Br.mk (fun hc=>?_) fun hc=>?_<;>first|exact hc.elim|conv=>whnf)|(refine kB ?_))
   all_goals first|rfl|(exfalso;omega)
 |succ k=>
  obtain rfl:z=(k:Nat):=by omega
  have hlt:k<x.length:=by omega
  have bx:0≤x[k]∧x[k]≤999:=hx.2 _ (List.getElem_mem hlt)
  have hn0:0≤n:=by rw[hn];exact FC fun y hy=>hx.2 y (List.mem_of_mem_drop hy)
  have hd:=JF hlt
  rw[← hn]at hd
  by_cases h:1000000000000<n
  ·have hbig:¬val x≤1000000000000000:=fun hle=>by
        have hm:∀j,j≤k→val (x.drop k)≤val (x.drop (k-j)):=fun j=>by
         induction j with
         |zero=>intro _;exact Int.le_refl _
         |succ j ih=>
          intro hj
          have h1:=ih (by omega)
          have h2:=JF (l:=x) (k:=k-(j+1)) (by omega)
          rw[show k-(j+1)+1=k-j by omega]at h2
          have h3:0≤x[k-(j+1)]'(by omega):=(hx.2 _ (List.getElem_mem _)).1
          have h4:0≤val (x.drop (k-j)):=FC fun y hy=>hx.2 y (List.mem_of_mem_drop hy)
          omega
        have:=hm k (Nat.le_refl k)
        rw[Nat.sub_self,List.drop_zero]at this
        omega
   rw[if_neg hbig]
   (conv=>whnf);repeat' (first  |(refine kA ?_;conv=>whnf)|(refine Br.mk (fun hc=>?_) fun hc=>?_<;>first|exact hc.elim|conv=>whnf)|(refine kB ?_))
   all_goals first|rfl|(exfalso;omega)
  ·(conv=>whnf);repeat' (first  |(refine kA ?_;conv=>whnf)|(refine Br.mk (fun hc=>?_) fun hc=>?_<;>first|exact hc.elim|conv=>whnf)|(refine kB ?_))
   all_goals first
        |(exfalso;omega)
        |exact again.mk ⟨_,by omega,k,_,_,rfl,by omega,by omega,by rw[hd];omega,by omega,rfl,rfl⟩
theorem Aap {x:List Int} {t d:Nat} (hx:Qm x) (hv:val x=(t:Nat)) (hd0:0<d) (hd:d≤Hg):Ah (Ac tab) 46 [WV true x,.int .i64 d] (fun v=>∃l,v=.CP [WV true l,.int .i64 ((t % d:Nat):Int)]∧Qm l∧val l=((t / d:Nat):Int)):=by
 refine(Ahp hx hd0 hd).mono ?_
 rintro _ ⟨l,r,rfl,hl,r0,r1,he⟩
 have hl0:=FC hl.2
 obtain⟨q,hq⟩:∃q:Nat,val l=q:=⟨(val l).toNat,by omega⟩
 obtain⟨k,rfl⟩:∃k:Nat,r=k:=⟨r.toNat,by omega⟩
 rw[hv,hq,←Int.natCast_mul,←Int.natCast_add]at he
 have he:t=q*d+k:=by exact_mod_cast he
 have h1:t / d=q:=by
  rw[he,Nat.mul_comm,Nat.mul_add_div hd0,Nat.div_eq_of_lt (by omega)];rfl
 have h2:t % d=k:=by
  rw[he,Nat.mul_comm,Nat.mul_add_mod,Nat.mod_eq_of_lt (by omega)]
 exact⟨l,by rw[h2],hl,by rw[h1,hq]⟩
theorem Aaq {x:List Int} {t:Nat} (hx:Qm x) (hv:val x=(t:Nat)):Ah (Ac tab) 47 [WV true x] (· =if t≤Hg then .CP [.int .i64 (t:Int),.bool true]else .CP [.int .i64 0,.bool false]):=by
 have h:=Afg hx
 rw[hv]at h
 unfold Hg
 by_cases c:t≤1000000000000000
 ·rw[if_pos (by omega)]at h;rw[if_pos c];exact h
 ·rw[if_neg (by omega)]at h;rw[if_neg c];exact h
theorem Y5 {a b:Nat} (ha:a≤Hg) (hb:b≤Hg):Ah (Ac tab) 44 [.int .i64 a,.int .i64 b] (fun v=>∃l,v=WV true l∧Qm l∧val l=((a*b:Nat):Int)):=by
 unfold Hg at*
 refine(Ahg (a:=(a:Int)) (b:=(b:Int)) (by omega) (by omega)).mono ?_
 rintro _ ⟨l,rfl,h1,h2⟩
 exact⟨l,rfl,h1,by rw[h2,Int.natCast_mul]⟩
theorem Aju {x y:List Int} {p q:Nat} (hx:Qm x) (hy:Qm y) (ex:val x=(p:Nat)) (ey:val y=(q:Nat)) (hb:p+q<1000000000000000000000000000000000000000):Ah (Ac tab) 42 [.int .i64 (if p=0 then 0 else 1),WV true x,.int .i64 (if q=0 then 0 else 1),WV true y] (fun v=>∃l,v=.CP [.int .i64 (if p+q=0 then 0 else 1),WV true l]∧Qm l∧val l=((p+q:Nat):Int)):=by
 obtain⟨_,⟨l,rfl,h1,h2⟩,hp⟩:=(Ajt hx hy (by rw[ex,ey];omega)).YO
 have h2:val l=((p+q:Nat):Int):=by rw[h2,ex,ey];omega
 by_cases hp0:p=0<;>by_cases hq0:q=0
 all_goals (simp only[hp0,hq0,if_true,if_false])
 ·refine Ae rfl rfl ?_
  (conv=>whnf);repeat' (first|(refine Aa hp ?_;rintro _ rfl;conv=>whnf)|(refine kA ?_;conv=>whnf)|(refine Br.mk (fun hc=>?_) fun hc=>?_<;>first|exact hc.elim|conv=>whnf)|(refine kB ?_))
  all_goals first|exact⟨l,rfl,h1,by rw[h2,hp0,hq0]⟩|(exfalso;omega)
 ·have e:(if 0+q=0 then(0:Int)else 1)=1:=if_neg (by omega)
  rw[e]
  refine Ae rfl rfl ?_
  (conv=>whnf);repeat' (first|(refine Aa hp ?_;rintro _ rfl;conv=>whnf)|(refine kA ?_;conv=>whnf)|(refine Br.mk (fun hc=>?_) fun hc=>?_<;>first|exact hc.elim|conv=>whnf)|(refine kB ?_))
  all_goals first|exact⟨y,rfl,hy,by rw[ey];simp⟩|(exfalso;omega)
 ·have e:(if p+0=0 then(0:Int)else 1)=1:=if_neg (by omega)
  rw[e]
  refine Ae rfl rfl ?_
  (conv=>whnf);repeat' (first|(refine Aa hp ?_;rintro _ rfl;conv=>whnf)|(refine kA ?_;conv=>whnf)|(refine Br.mk (fun hc=>?_) fun hc=>?_<;>first|exact hc.elim|conv=>whnf)|(refine kB ?_))
  all_goals first|exact⟨l,rfl,h1,by rw[h2,hq0]⟩|(exfalso;omega)
 ·have e:(if p+q=0 then(0:Int)else 1)=1:=if_neg (by omega)
  rw[e]
  refine Ae rfl rfl ?_
  (conv=>whnf);repeat' (first|(refine Aa hp ?_;rintro _ rfl;conv=>whnf)|(refine kA ?_;conv=>whnf)|(refine Br.mk (fun hc=>?_) fun hc=>?_<;>first|exact hc.elim|conv=>whnf)|(refine kB ?_))
  all_goals first|exact⟨l,rfl,h1,h2⟩|(exfalso;omega)
set_option maxHeartbeats 4000000 in
theorem Aji {x y:Nat×Nat} (hx:Q9 x) (hy:Q9 y):Ah (Ac tab) 15 [fv x,fv y] (· =UQ (addN x y)):=by
 obtain⟨a,b⟩:=x
 obtain⟨c,d⟩:=y
 have v1:Ah (Ac tab) 40 [fv (a,b)] (· =.bool true):=by have:=fvR (n:=(a:Int)) (d:=(b:Int));rwa [decide_eq_true (vnF hx)]at this
 have v2:Ah (Ac tab) 40 [fv (c,d)] (· =.bool true):=by have:=fvR (n:=(c:Int)) (d:=(d:Int));rwa [decide_eq_true (vnF hy)]at this
 obtain⟨hb1,hb2,ha,_⟩:=hx
 obtain⟨hd1,hd2,hc,_⟩:=hy
 dsimp only at*
 have gP:=Ahq (a:=b) (b:=d) (by unfold Hg at *;omega) (by unfold Hg at *;omega)
 have hg:0<Nat.gcd b d:=Nat.gcd_pos_of_pos_right b hd1
 have hgl:Nat.gcd b d≤d:=Nat.gcd_le_right b hd1
 unfold addN Y6 Xy
 dsimp only
 have hgb:Nat.gcd b d≤b:=Nat.gcd_le_left d hb1
 generalize Nat.gcd b d=g at*
 have k1:=Xz b g
 have k2:=Xz d g
 have hb':b / g≤b:=Nat.div_le_self _ _
 have hd':d / g≤d:=Nat.div_le_self _ _
 have hB0:0<b / g:=Nat.div_pos hgb hg
 have hD0:0<d / g:=by
  refine Nat.div_pos ?_ hg
  exact hgl
 generalize b / g=B at*
 generalize d / g=D at*
 have hBM:B≤Hg:=by omega
 have hDM:D≤Hg:=by omega
 have sa:=AcD (IL ha)
 have sc:=AcD (IL hc)
 simp only[Int.natAbs_natCast]at sa sc
 have ga:Ah (Ac tab) 43 [.int .i64 (a:Int)] (· =.int .i64 (if a*D=0 then 0 else 1)):=by
  have h:=sign (n:=(a:Int))
  have e:sgn (a:Int)=if a*D=0 then 0 else 1:=by
   by_cases h0:a=0
   ·subst h0;simp;rfl
   ·have:=Nat.mul_pos (show 0<a by omega) hD0
    rw[if_neg (by omega)]
    exact Aak (by omega)
  rwa [e]at h
 have gc:Ah (Ac tab) 43 [.int .i64 (c:Int)] (· =.int .i64 (if c*B=0 then 0 else 1)):=by
  have h:=sign (n:=(c:Int))
  have e:sgn (c:Int)=if c*B=0 then 0 else 1:=by
   by_cases h0:c=0
   ·subst h0;simp;rfl
   ·have:=Nat.mul_pos (show 0<c by omega) hB0
    rw[if_neg (by omega)]
    exact Aak (by omega)
  rwa [e]at h
 obtain⟨_,⟨l1,rfl,x1,x2⟩,t1⟩:=(Y5 ha hDM).YO
 obtain⟨_,⟨l2,rfl,y1,y2⟩,t2⟩:=(Y5 hc hBM).YO
 have m1:a*D≤1000000000000000*1000000000000000:=Nat.mul_le_mul ha hDM
 have m2:c*B≤1000000000000000*1000000000000000:=Nat.mul_le_mul hc hBM
 generalize a*D=X at*
 generalize c*B=Y at*
 obtain⟨_,⟨l3,rfl,z1,z2⟩,hs⟩:=(Aju x1 y1 x2 y2 (by omega)).YO
 obtain⟨sX,hsX⟩:∃z:Int,z=(if X=0 then 0 else 1):=⟨_,rfl⟩
 obtain⟨sY,hsY⟩:∃z:Int,z=(if Y=0 then 0 else 1):=⟨_,rfl⟩
 rw[← hsX]at ga hs
 rw[← hsY]at gc hs
 clear hsX hsY
 obtain⟨t,ht⟩:∃t,X+Y=t:=⟨_,rfl⟩
 rw[ht]at hs z2 ⊢
 by_cases ht0:t=0
 ·rw[if_pos ht0]at hs ⊢
  unfold Hg at*
  refine Ae rfl rfl ?_
  (conv=>whnf);repeat' (first|((first|refine Aa v1 ?_|refine Aa v2 ?_|refine Aa gP ?_);rintro _ rfl;conv=>whnf)|(rw [k1];conv=>whnf)|(rw [k2];conv=>whnf)|((first|refine Aa ga ?_|refine Aa gc ?_|refine Aa sa ?_|refine Aa sc ?_|refine Aa t1 ?_|refine Aa t2 ?_|refine Aa hs ?_);rintro _ rfl;conv=>whnf)|(refine kA ?_;conv=>whnf)|(refine Br.mk (fun hc=>?_) fun hc=>?_<;>first|exact hc.elim|conv=>whnf)|(refine kB ?_))
  all_goals first|rfl|(exfalso;omega)
 rw[if_neg ht0]at hs ⊢
 obtain⟨_,⟨l4,rfl,w1,w2⟩,pg⟩:=(Aap z1 z2 hg (show g≤Hg by omega)).YO
 have hr:=Nat.mod_lt t hg
 have g2:=Ahq (a:=g) (b:=t % g) (by unfold Hg at *;omega) (by unfold Hg at *;omega)
 rw[show Nat.gcd g (t % g)=Nat.gcd t g by rw[Nat.gcd_comm,←Nat.gcd_rec,Nat.gcd_comm]]at g2
 generalize t % g=r at*
 have hh:0<Nat.gcd t g:=Nat.gcd_pos_of_pos_right t hg
 have hhl:Nat.gcd t g≤g:=Nat.gcd_le_right t hg
 generalize Nat.gcd t g=h at*
 obtain⟨_,⟨l5,rfl,u1,u2⟩,ph⟩:=(Aap z1 z2 hh (show h≤Hg by omega)).YO
 have k3:=Xz d h
 have hE:d / h≤d:=Nat.div_le_self _ _
 generalize d / h=E at*
 have nq:=Aaq u1 u2
 obtain⟨_,⟨l6,rfl,o1,o2⟩,t3⟩:=(Y5 hBM (show E≤Hg by omega)).YO
 have nd:=Aaq o1 o2
 generalize t / h=n at*
 generalize t % h=r2 at*
 generalize B*E=q at*
 unfold Hg at*
 obtain⟨R,hR⟩:∃R,R=(if n≤1000000000000000∧q≤1000000000000000 then some (n,q)else none):=⟨_,rfl⟩
 rw[← hR]
 clear m1 m2 x2 y2 z2 w2 u2 o2 ht
 by_cases c1:n≤1000000000000000<;>by_cases c2:q≤1000000000000000
 all_goals (
  simp only[c1,c2,and_self,and_true,and_false,if_true,if_false]at hR nq nd
  subst hR
  refine Ae rfl rfl ?_
  (conv=>whnf);repeat' (first|(rw [show (1:Int)*(n:Int)=n from Int.one_mul _];conv=>whnf)|((first|refine Aa v1 ?_|refine Aa v2 ?_|refine Aa gP ?_);rintro _ rfl;conv=>whnf)|(rw [k1];conv=>whnf)|(rw [k2];conv=>whnf)|(rw [k3];conv=>whnf)|((first|refine Aa ga ?_|refine Aa gc ?_|refine Aa sa ?_|refine Aa sc ?_|refine Aa t1 ?_|refine Aa t2 ?_|refine Aa hs ?_|refine Aa pg ?_|refine Aa ph ?_|refine Aa g2 ?_|refine Aa nq ?_|refine Aa t3 ?_|refine Aa nd ?_);rintro _ rfl;conv=>whnf)|(refine kA ?_;conv=>whnf)|(refine Br.mk (fun hc=>?_) fun hc=>?_<;>first|exact hc.elim|conv=>whnf)|(refine kB ?_)))
 all_goals first|rfl|(exfalso;omega)
def II (b:Bool):Nat:=if b then 1 else 0
def Ur (N:Int→Int→Bool) (l:List Int) (v:Int):Nat:=(l.map fun x=>(l.map fun y=>II (N v x&&(N v y&&N x y))).sum).sum
theorem Q8 {p:Int→Bool}:∀{l:List Int},(l.map fun y=>II (p y)).sum=(l.filter p).length
 |[]=>rfl
 |x::l=>by
  have:=Q8 (p:=p) (l:=l)
  simp only[List.map_cons,List.sum_cons,List.filter_cons,this]
  cases p x<;>simp[II];omega
theorem sum_add {f g:Int→Nat}:∀{l:List Int},(l.map fun y=>f y+g y).sum=(l.map f).sum+(l.map g).sum
 |[]=>rfl
 |x::l=>by
  have:=sum_add (f:=f) (g:=g) (l:=l)
  simp only[List.map_cons,List.sum_cons,this]
  omega
theorem Xu {f:Int→Nat} {l:List Int} (h:∀x∈l,f x=0):(l.map f).sum=0:=by
 induction l with
 |nil=>rfl
 |cons a l ih=>simp[h a (by simp),ih fun x hx=>h x (by simp[hx])]
theorem VU {f:Int→Nat} {b:Int}:∀{l:List Int},l.Nodup→b∈l→(l.map fun x=>if x=b then f x else 0).sum=f b
 |[],_,h=>by cases h
 |x::l,hn,h=>by
  rw[List.nodup_cons]at hn
  simp only[List.map_cons,List.sum_cons]
  by_cases e:x=b
  ·subst e
   rw[if_pos rfl,Xu fun y hy=>if_neg (fun e=>hn.1 (by rw[← e];exact hy))]
   rfl
  ·rw[if_neg e,VU hn.2 (by rcases List.mem_cons.1 h with h|h;exact absurd h.symm e;exact h)]
   omega
theorem Aaj {p:Int→Bool} {b:Int} {l:List Int} (hn:l.Nodup) (hb:b∈l):(l.map fun x=>(l.map fun y=>II (decide (x=b)&&p y)).sum).sum=(l.filter p).length:=by
 have:(l.map fun x=>(l.map fun y=>II (decide (x=b)&&p y)).sum)=l.map fun x=>if x=b then(l.filter p).length else 0:=by
  refine List.map_congr_left fun x _=>?_
  by_cases e:x=b
  ·rw[if_pos e,←Q8];simp[e]
  ·rw[if_neg e];exact Xu fun y _=>by simp[e,II]
 rw[this,VU (f:=fun _=>(l.filter p).length) hn hb]
theorem Ae8 {p:Int→Bool} {b:Int} {l:List Int} (hn:l.Nodup) (hb:b∈l):(l.map fun x=>(l.map fun y=>II (decide (y=b)&&p x)).sum).sum=(l.filter p).length:=by
 have:(l.map fun x=>(l.map fun y=>II (decide (y=b)&&p x)).sum)=l.map fun x=>II (p x):=by
  refine List.map_congr_left fun x _=>?_
  have h:(l.map fun y=>II (decide (y=b)&&p x))=l.map fun y=>if y=b then II (p x)else 0:=List.map_congr_left fun y _=>by
   by_cases e:y=b<;>simp[e,II]
  rw[h,VU (f:=fun _=>II (p x)) hn hb]
 rw[this,Q8]
section
variable {N M:Int→Int→Bool} {l:List Int} {a b:Int}
structure H8 (N M:Int→Int→Bool) (a b:Int):Prop where
 ne:a≠b
 sN:∀x y,N x y=N y x
 iN:∀x,N x x=false
 no:N a b=false
 up:∀x y,M x y=(N x y||(decide (x=a)&&decide (y=b)||decide (x=b)&&decide (y=a)))
theorem H8.flip (h:H8 N M a b):H8 N M b a:=⟨h.ne.symm,h.sN,h.iN,by rw[h.sN];exact h.no,fun x y=>by rw[h.up,Bool.or_comm (decide (x=a)&&_)]⟩
theorem H8.at_end (h:H8 N M a b) (hn:l.Nodup) (hb:b∈l):Ur M l a=Ur N l a+2*(l.filter fun x=>N a x&&N b x).length:=by
 have hp:∀x y,II (M a x&&(M a y&&M x y))=II (N a x&&(N a y&&N x y))+(II (decide (x=b)&&(N a y&&N b y))+II (decide (y=b)&&(N a x&&N b x))):=fun x y=>by
  have e1:=h.ne
  have e2:=h.iN a
  have e3:=h.iN b
  have e4:=h.no
  have e5:N b a=false:=by rw[h.sN];exact e4
  rw[h.up,h.up,h.up]
  by_cases hxa:x=a
  ·subst hxa
   simp[e1,e2,e5,II]
  by_cases hya:y=a
  ·subst hya
   simp[e1,e2,e5,II]
  by_cases hxb:x=b
  ·subst hxb
   by_cases hyb:y=x
   ·subst hyb
    simp[hxa,e3,e4,II]
   ·simp[hxa,hya,hyb,e4,II]
  ·by_cases hyb:y=b
   ·subst hyb
    simp[hxa,hya,hxb,e4,II,h.sN x y]
   ·simp[hxa,hya,hxb,hyb,II]
 unfold Ur
 have e:(l.map fun x=>(l.map fun y=>II (M a x&&(M a y&&M x y))).sum)=l.map fun x=>(l.map fun y=>II (N a x&&(N a y&&N x y))).sum+((l.map fun y=>II (decide (x=b)&&(N a y&&N b y))).sum+(l.map fun y=>II (decide (y=b)&&(N a x&&N b x))).sum):=by
  refine List.map_congr_left fun x _=>?_
  rw[← sum_add,←sum_add]
  exact congrArg List.sum (List.map_congr_left fun y _=>hp x y)
 rw[e,sum_add,sum_add,Aaj (p:=fun y=>N a y&&N b y) hn hb,Ae8 (p:=fun x=>N a x&&N b x) hn hb]
 omega
theorem H8.Ae9 (h:H8 N M a b) (hn:l.Nodup) (ha:a∈l) (hb:b∈l) {v:Int} (va:v≠a) (vb:v≠b):Ur M l v=Ur N l v+2*II (N a v&&N b v):=by
 have hp:∀x y,II (M v x&&(M v y&&M x y))=II (N v x&&(N v y&&N x y))+(II (decide (x=a)&&(decide (y=b)&&(N a v&&N b v)))+II (decide (x=b)&&(decide (y=a)&&(N a v&&N b v)))):=fun x y=>by
  have e4:=h.no
  have e5:N b a=false:=by rw[h.sN];exact e4
  have e1:=h.ne
  have e1':=h.ne.symm
  have s1:=h.sN v a
  have s2:=h.sN v b
  rw[h.up,h.up,h.up]
  simp only[va,vb,decide_false,Bool.false_and,Bool.or_false]
  by_cases hxa:x=a
  ·subst hxa
   by_cases hyb:y=b
   ·subst hyb
    simp[e4,e1,e1',s1,s2,II]
   ·simp[hyb,e1,II]
  by_cases hxb:x=b
  ·subst hxb
   by_cases hya:y=a
   ·subst hya
    simp[e5,e1,e1',s1,s2,II,Bool.and_comm]
   ·simp[hya,hxa,II]
  ·simp[hxa,hxb,II]
 have one:∀{a b:Int} {q:Bool},a∈l→b∈l→(l.map fun x=>(l.map fun y=>II (decide (x=a)&&(decide (y=b)&&q))).sum).sum=II q:=fun{a b q} ha hb=>by
  rw[Aaj (p:=fun y=>decide (y=b)&&q) hn ha,←Q8]
  have h:(l.map fun y=>II (decide (y=b)&&q))=l.map fun y=>if y=b then II q else 0:=List.map_congr_left fun y _=>by
   by_cases e:y=b<;>simp[e,II]
  rw[h,VU (f:=fun _=>II q) hn hb]
 unfold Ur
 have e:(l.map fun x=>(l.map fun y=>II (M v x&&(M v y&&M x y))).sum)=l.map fun x=>(l.map fun y=>II (N v x&&(N v y&&N x y))).sum+((l.map fun y=>II (decide (x=a)&&(decide (y=b)&&(N a v&&N b v)))).sum+(l.map fun y=>II (decide (x=b)&&(decide (y=a)&&(N a v&&N b v)))).sum):=by
  refine List.map_congr_left fun x _=>?_
  rw[← sum_add,←sum_add]
  exact congrArg List.sum (List.map_congr_left fun y _=>hp x y)
 rw[e,sum_add,sum_add,one ha hb,one hb ha]
 omega
end
def trO (N:Int→Int→Bool) (l:List Int):List (Int×Int):=l.map fun v=>(v,((Ur N l v / 2:Nat):Int))
section
variable {N M:Int→Int→Bool} {l:List Int} {a b:Int}
def stepT (a b:Int) (C:List Int) (s:Int) (p:Int×Int):Int×Int:=if p.1=a∨p.1=b then(p.1,p.2+s*C.length)else if p.1∈C then(p.1,p.2+s)else p
theorem H8.tr (h:H8 N M a b) (hn:l.Nodup) (ha:a∈l) (hb:b∈l) {C:List Int} (hC:C.length=(l.filter fun x=>N a x&&N b x).length) (hm:∀x∈l,x∈C↔(N a x&&N b x)=true):
 trO M l=(trO N l).map (stepT a b C 1)∧trO N l=(trO M l).map (stepT a b C (-1)):=by
 have key:∀v∈l,(v=a∨v=b)∧Ur M l v=Ur N l v+2*C.length∨¬(v=a∨v=b)∧v∈C∧Ur M l v=Ur N l v+2∨¬(v=a∨v=b)∧v∉C∧Ur M l v=Ur N l v:=fun v hv=>by
  by_cases h1:v=a
  ·subst h1
   exact .inl ⟨.inl rfl,by rw[h.at_end hn hb,hC]⟩
  by_cases h2:v=b
  ·subst h2
   refine .inl ⟨.inr rfl,?_⟩
   rw[h.flip.at_end hn ha,hC]
   rw[List.filter_congr fun x _=>Bool.and_comm (N v x) (N a x)]
  have h3:=h.Ae9 hn ha hb h1 h2
  have hne:¬(v=a∨v=b):=fun e=>e.elim h1 h2
  by_cases h4:v∈C
  ·refine .inr (.inl ⟨hne,h4,?_⟩)
   rw[h3,(hm v hv).1 h4];rfl
  ·refine .inr (.inr ⟨hne,h4,?_⟩)
   rw[h3,Bool.eq_false_iff.2 (fun e=>h4 ((hm v hv).2 e))];rfl
 unfold trO
 constructor
 ·rw[List.map_map]
  refine List.map_congr_left fun v hv=>?_
  show _=stepT a b C 1 (v,_)
  unfold stepT
  rcases key v hv with⟨k1,k2⟩|⟨k1,k2,k3⟩|⟨k1,k2,k3⟩
  ·rw[if_pos k1,k2]
   refine Prod.ext rfl ?_
   show(((Ur N l v+2*C.length) / 2:Nat):Int)=((Ur N l v / 2:Nat):Int)+1*(C.length:Int)
   omega
  ·rw[if_neg k1,if_pos k2,k3]
   refine Prod.ext rfl ?_
   show(((Ur N l v+2) / 2:Nat):Int)=((Ur N l v / 2:Nat):Int)+1
   omega
  ·rw[if_neg k1,if_neg k2,k3]
 ·rw[List.map_map]
  refine List.map_congr_left fun v hv=>?_
  show _=stepT a b C (-1) (v,_)
  unfold stepT
  rcases key v hv with⟨k1,k2⟩|⟨k1,k2,k3⟩|⟨k1,k2,k3⟩
  ·rw[if_pos k1,k2]
   refine Prod.ext rfl ?_
   show((Ur N l v / 2:Nat):Int)=(((Ur N l v+2*C.length) / 2:Nat):Int)+-1*(C.length:Int)
   omega
  ·rw[if_neg k1,if_pos k2,k3]
   refine Prod.ext rfl ?_
   show((Ur N l v / 2:Nat):Int)=(((Ur N l v+2) / 2:Nat):Int)+-1
   omega
  ·rw[if_neg k1,if_neg k2,k3]
end
theorem min_self (A:Int):Abf A A=A:=by unfold Abf;split<;>omega
section
variable {α κ:Type} {lt:κ→κ→Bool} {key:α→κ}
def lk [DecidableEq κ] (key:α→κ) (l:List α) (k:κ):Option α:=l.find? fun a=>decide (key a=k)
theorem AaL [DecidableEq κ] {l:List α} {k:κ} {a:α} (h:lk key l k=some a):a∈l∧key a=k:=⟨List.mem_of_find?_eq_some h,of_decide_eq_true (List.find?_some (p:=fun a=>decide (key a=k)) h)⟩
theorem WH [DecidableEq κ] (hs:Xt lt):∀{l:List α},Inc lt key l→∀{a:α} {k:κ},a∈l→key a=k→lk key l k=some a
 |[],_,_,_,h,_=>by simp at h
 |b::l,hl,a,k,h,e=>by
  have hl':=List.pairwise_cons.1 hl
  unfold lk
  rcases List.mem_cons.1 h with rfl|hm
  ·rw[List.find?_cons,decide_eq_true e]
  ·have hb:key b≠k:=fun e2=>by
        have:=hl'.1 a hm
        rw[e,e2,hs.irr]at this;cases this
   rw[List.find?_cons,decide_eq_false hb]
   exact WH hs hl'.2 hm e
theorem Ad3 [DecidableEq κ] (hs:Xt lt) {l:List α} (hl:Inc lt key l) {k:κ} {a:α}:lk key l k=some a↔a∈l∧key a=k:=⟨AaL,fun h=>WH hs hl h.1 h.2⟩
theorem ne_iff (hs:Xt lt) {x y:κ}:(lt x y=true∨lt y x=true)↔x≠y:=by
 constructor
 ·rintro(h|h) rfl<;>(rw [hs.irr]at h;cases h)
 ·intro h
  cases h1:lt x y
  ·cases h2:lt y x
   ·exact absurd (hs.tot _ _ h1 h2) h
   ·exact .inr rfl
  ·exact .inl rfl
theorem Rl (hs:Xt lt) {x y:α} {l:List α}:y∈EC lt key x l↔y=x∨y∈l∧key y≠key x:=by
 rw[← ne_iff hs]
 simp only[EC,below,above,List.mem_append,List.mem_filter,List.mem_singleton]
 constructor
 ·rintro((h|h)|h)
  ·exact .inr ⟨h.1,.inl h.2⟩
  ·exact .inl h
  ·exact .inr ⟨h.1,.inr h.2⟩
 ·rintro(h|⟨h,h2|h2⟩)
  ·exact .inl (.inr h)
  ·exact .inl (.inl ⟨h,h2⟩)
  ·exact .inr ⟨h,h2⟩
theorem Ad4 [DecidableEq κ] (hs:Xt lt) {x:α} {l:List α} (hl:Inc lt key l) {k:κ}:lk key (EC lt key x l) k=if k=key x then some x else lk key l k:=by
 have hp:=G6 (x:=x) hs hl
 by_cases e:k=key x
 ·rw[if_pos e]
  exact WH hs hp ((Rl hs).2 (.inl rfl)) e.symm
 ·rw[if_neg e]
  apply Option.ext
  intro a
  rw[Ad3 hs hp,Ad3 hs hl,Rl hs]
  constructor
  ·rintro⟨rfl|h,h2⟩
   ·exact absurd h2.symm e
   ·exact⟨h.1,h2⟩
  ·rintro⟨h,h2⟩
   exact⟨.inr ⟨h,by rw[h2];exact e⟩,h2⟩
end
structure GC where
 op:Int
 id:Int
 fr:Int
 to:Int
 name:List UInt8
 v:GV
def GC.av (c:GC):AV:=.agg [.int .i64 c.op,.int .i64 c.id,.int .i64 c.fr,.int .i64 c.to,.str c.name,.int .i64 c.v.k,.int .i64 c.v.n,.int .i64 c.v.d,.str c.v.s,.sl c.v.nn c.v.l]
def GC.ok (c:GC):Prop:=I64 c.op∧I64 c.id∧I64 c.fr∧I64 c.to∧Ln c.name∧c.v.ok
def Agh (ns:List Int) (N:List GN):List GN:=N.filter fun n=>decide (n.id∉ns)
def Agi (es:List Int) (E:List GE):List GE:=E.filter fun e=>decide (e.id∉es)
def PU (ns es:List Int) (g h:GG):Prop:=Agh ns h.nodes=Agh ns g.nodes∧Agi es h.edges=Agi es g.edges
theorem PU.refl (ns es:List Int) (g:GG):PU ns es g g:=⟨rfl,rfl⟩
theorem PU.trans {ns es:List Int} {g h k:GG} (h1:PU ns es g h) (h2:PU ns es h k):PU ns es g k:=⟨h2.1.trans h1.1,h2.2.trans h1.2⟩
def VLi (m:Nat) (l:List AV):Prop:=∀i (h:i<l.length),∃x:GV,l[i]=x.av∧VV m x
noncomputable instance (m:Nat) (g:GV):Decidable (VV m g):=Classical.propDecidable _
noncomputable instance (l:List AV):Decidable (VPa l):=Classical.propDecidable _
noncomputable instance (m:Nat) (l:List AV):Decidable (VLi m l):=Classical.propDecidable _
def AiY (g:GV):Prop:=VV 8 g∧(g.k=2∨g.k=3)
noncomputable instance (g:GV):Decidable (AiY g):=by unfold AiY;infer_instance
def dn (g:GV):Int:=if g.k=2 then 1 else g.d
def isNull (v:GV):Prop:=v.k=0∧v.n=0∧v.d=0∧v.s=[]∧v.l.length=0
instance (v:GV):Decidable (isNull v):=by unfold isNull;infer_instance
def AhQ (k:Int):Int:=if k=3 then 2 else if k=7 then 9 else k
section
open Go.Sort
def AfH:AV→GV
 | .agg [.int _ k,.int _ n,.int _ d,.str s,.sl nn l]=>⟨k,n,d,s,nn,l⟩
 |_=>⟨0,0,0,[],false,[]⟩
def LK (c:AV→AV→Int):List AV→List AV→Int
 |[],[]=>0
 |[],_::_=>-1
 |_::_,[]=>1
 |a::x,b::y=>Tq (c a b) (LK c x y)
theorem TD {c:AV→AV→Int} (hc:PC c):∀x y,LK c y x=-LK c x y
 |[],[]=>rfl
 |[],_::_=>rfl
 |_::_,[]=>rfl
 |a::x,b::y=>by
  have h1:=hc.anti a b
  have h2:=TD hc x y
  simp only[LK,Tq]
  split<;>split<;>omega
theorem Qw {c:AV→AV→Int} (hc:PC c):∀x y z,LK c x y≤0→LK c y z≤0→LK c x z≤0
 |[],_,[],_,_=>Int.le_refl 0
 |[],_,_::_,_,_=>by show(-1:Int)≤0;omega
 |_::_,[],_,h,_=>absurd h (by show¬(1:Int)≤0;omega)
 |_::_,_::_,[],_,h=>absurd h (by show¬(1:Int)≤0;omega)
 |a::x,b::y,d::z,h1,h2=>by
  have ih:=Qw hc x y z
  have a1:=hc.trans a b d
  have a2:=hc.trans b d a
  have a3:=hc.trans d a b
  have b1:=hc.anti a b
  have b2:=hc.anti b d
  have b3:=hc.anti a d
  simp only[LK,Tq]at*
  split at h1<;>split at h2<;>split<;>omega
theorem PC.lists {c:AV→AV→Int} (hc:PC c):PC (LK c):=⟨TD hc,Qw hc⟩
def pd (g:GV):Int:=if dn g≤0 then 1 else dn g
def AjP (a b:GV):Int:=sgn (a.n*pd b-b.n*pd a)
def AjQ:Nat→GV→GV→Int
 |0,_,_=>0
 |m+1,a,b=>Tq (MR (AhQ a.k) (AhQ b.k)) (if AhQ a.k=2 then AjP a b else Tq (cS a.s b.s) (Tq (MR a.n b.n) (LK (fun x y=>AjQ m (AfH x) (AfH y)) a.l b.l)))
theorem PC.two {α:Type} {d e:α→α→Int} {p:α→Prop} [DecidablePred p] (hd:PC d) (he:PC e):PC fun x y=>if p x then if p y then d x y else -1 else if p y then 1 else e x y where
 anti x y:=by
  have h2:=hd.anti x y
  have h3:=he.anti x y
  by_cases hx:p x<;>by_cases hy:p y<;>simp only[hx,hy,if_true,if_false]<;>first|assumption|rfl
 trans x y z h1 h2:=by
  have d1:=hd.trans x y z
  have e1:=he.trans x y z
  by_cases hx:p x<;>by_cases hy:p y<;>by_cases hz:p z<;>simp only[hx,hy,hz,if_true,if_false]at* <;>first|exact d1 h1 h2|exact e1 h1 h2|omega
noncomputable def AhM:Nat→GV→GV→Int
 |0,_,_=>0
 |m+1,a,b=>if VV 8 a then if VV 8 b then AjQ (m+1) a b else -1 else if VV 8 b then 1 else
   Tq (MR a.k b.k) (Tq (MR a.n b.n) (Tq (MR a.d b.d) (Tq (cS a.s b.s) (LK (fun x y=>AhM m (AfH x) (AfH y)) a.l b.l))))
end
def cl (b:Bool) (x:AV):AV:=bif b then .agg [x]else x
section
open Go.Sort
end
section
open Go.Sort
end
def Aem {α:Type} (R:α→α→Prop) (l m:List α):Prop:=l.length=m.length∧∀k (h:k<l.length) (h':k<m.length),R l[k] m[k]
noncomputable instance {α:Type} (R:α→α→Prop) (l m:List α):Decidable (Aem R l m):=Classical.propDecidable _
section
variable {α:Type} {R:α→α→Prop} {l m:List α} {i:Nat}
end
def SP (x y:GP):Prop:=x.key=y.key∧AhM 12 x.v y.v=0
def SN (x y:GN):Prop:=x.id=y.id∧x.labels=y.labels∧Aem SP x.props y.props
def SE (x y:GE):Prop:=x.id=y.id∧x.fr=y.fr∧x.to=y.to∧x.ty=y.ty∧Aem SP x.props y.props
def SG (a b:GG):Prop:=Aem SN a.nodes b.nodes∧Aem SE a.edges b.edges
noncomputable instance (x y:GP):Decidable (SP x y):=Classical.propDecidable _
noncomputable instance (x y:GN):Decidable (SN x y):=Classical.propDecidable _
noncomputable instance (x y:GE):Decidable (SE x y):=Classical.propDecidable _
noncomputable instance (x y:GG):Decidable (SG x y):=Classical.propDecidable _
theorem AfC {a b:Int} (h:MR a b<0):H7 a b=true:=by simpa[H7]using Ov.1 h
theorem AfD {a b:Int} (h:¬MR a b<0):H7 a b=false:=by simpa[H7]using mt Ov.2 h
theorem AlO {n:GN} {x:Int}:Ah (Ac tab) 195 [n.av,.int .i64 x] (· =.int .i64 (MR n.id x)):=by
 refine Ae rfl rfl ?_
 (conv=>whnf);repeat' (first|(refine kA ?_;conv=>whnf)|(refine Br.mk (fun hc=>?_) fun hc=>?_<;>first|exact hc.elim|conv=>whnf)|(refine Aa compare ?_;rintro _ rfl;conv=>whnf)|(refine kB ?_))
 rfl
theorem bsN {l:List GN} {nn:Bool} {x:Int} (hl:l.length<2^62) (hi:Inc H7 GN.id l):Ah (Ac tab) 99 [.sl nn (vs GN.av l),.int .i64 x,.fn 195 []] (fun v=>∃(i:Nat) (b:Bool),v=.CP [.int .i64 i,.bool b]∧AtK H7 GN.id x l i∧(b=true↔∃y∈l,GN.id y=x)):=by
 have fin:∀i:Nat,AtK H7 GN.id x l i→((∃ y∈l,GN.id y=x)↔∃h:i<l.length,GN.id l[i]=x):=by
  intro i h
  constructor
  ·intro hf
   obtain⟨h1,h2,_⟩:=h.found Bq hi hf
   exact⟨h1,h2⟩
  ·rintro⟨h1,h2⟩
   exact⟨_,List.getElem_mem h1,h2⟩
 refine Ae rfl rfl ?_
 (conv=>whnf);repeat' (first|(refine kA ?_;conv=>whnf)|(refine Br.mk (fun hc=>?_) fun hc=>?_<;>first|exact hc.elim|conv=>whnf)  |(refine kB ?_))
 refine Aj (fun m env s=>∃(i j:Nat),m=j-i∧i≤j∧j≤l.length∧env=[(0,.sl nn (vs GN.av l)),(1,.int .i64 x),(2,.fn 195 []),(8,.int .i64 l.length),(9,.int .i64 i),(10,.int .i64 j)]∧s=⟨[],0⟩∧
  (∀ k (h:k<l.length),k<i→H7 (GN.id l[k]) x=true)∧(∀ k (h:k<l.length),j≤k→H7 (GN.id l[k]) x=false)) ?_ _ _ _ ⟨0,l.length,rfl,by omega,by omega,by simp,rfl,fun k _ h=>absurd h (by omega),fun k h1 h=>absurd h (by omega)⟩
 rintro _ _ _ ⟨i,j,rfl,hij,hj,rfl,rfl,h1,h2⟩
 refine⟨rfl,?_⟩
 have lo:∀{q:Nat} (hq:q<l.length),H7 (GN.id l[q]) x=true→∀k (h:k<l.length),k<q+1→H7 (GN.id l[k]) x=true:=fun{q} hq hm k hk hlt=>by
  rcases Nat.lt_or_ge k q with h|h
  ·exact(Bq).tr _ _ _ (hi.get h hq) hm
  ·obtain rfl:k=q:=by omega
   exact hm
 have up:∀{q:Nat} (hq:q<l.length),H7 (GN.id l[q]) x=false→∀k (h:k<l.length),q≤k→H7 (GN.id l[k]) x=false:=fun{q} hq hm k hk hle=>by
  rcases Nat.lt_or_ge q k with h|h
  ·cases h3:H7 (GN.id l[k]) x
   ·rfl
   ·have:=(Bq).tr _ _ _ (hi.get h hk) h3
    rw[hm]at this;cases this
  ·obtain rfl:k=q:=by omega
   exact hm
 (conv=>whnf);repeat' (first|(refine Agf (i+j) (by omega) (by omega) ?_;conv=>whnf)|(apply A8;(· exact Ai6 _);conv=>whnf)|(refine Aa AlO ?_;rintro _ rfl;conv=>whnf)|(refine kA ?_;conv=>whnf)|(refine Br.mk (fun hc=>?_) fun hc=>?_<;>first|exact hc.elim|conv=>whnf)|(refine kB ?_))
 all_goals first
  |exact again.mk ⟨_,by omega,(i+j) / 2+1,j,rfl,by omega,hj,rfl,rfl,lo (by omega) (AfC hc),h2⟩
  |exact again.mk ⟨_,by omega,i,(i+j) / 2,rfl,by omega,by omega,rfl,rfl,h1,up (by omega) (AfD hc)⟩
  |skip
 all_goals
  obtain rfl:i=j:=by omega
  have ha:AtK H7 GN.id x l i:=⟨by omega,h1,h2⟩
  have hf:=fin i ha
  first
   |exact⟨i,_,rfl,ha,fun _=>hf.2 ⟨by omega,Me.1 hc⟩,fun _=>rfl⟩
   |exact⟨i,_,rfl,ha,fun h=>(by cases h),fun h=>(by obtain⟨_,e⟩:=hf.1 h;exact absurd (Me.2 e) hc)⟩
   |exact⟨i,_,rfl,ha,fun h=>(by cases h),fun h=>by obtain⟨e,_⟩:=hf.1 h;omega⟩
end AI
end Go.Proofs.YtchcadfjbkkgmaaGreatDoor
