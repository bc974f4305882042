/- The reference's Weak. The reference's Has. The reference's Reach: what is reached along edges. The reference's Strong: the least of those that reach each other. The worked example of the component laws. The law ComponentJoins, about the evaluator. The budget of a graph; names and types; entries. Small graphs, few strings. What the component laws share. The law ComponentFinds, about the evaluator. -/
import Derived.Test.YtjjhejbffgaabaaGreatDoorMag
import Derived.Test.YtjjhejbffgaabaaGreatDoorMak
import Derived.Test.YtjjhejbffgaabaaGreatDoorMae
import Derived.Test.YtjjhejbffgaabaaGreatDoorMai
import Derived.Test.YtjjhejbffgaabaaGreatDoorMaj
import Derived.Test.YtjjhejbffgaabaaGreatDoorPGrCode
import Derived.Test.YtjjhejbffgaabaaGreatDoorPVa
import Derived.Test.YtjjhejbffgaabaaGreatDoorMaf
set_option linter.unusedVariables false
set_option maxRecDepth 4000
namespace Go.Proofs.YtjjhejbffgaabaaGreatDoor
namespace AI
theorem OC (ids:List Int) (es:List (Int×Int)):(FD ids es).length=ids.length:=by
 unfold FD
 suffices h:∀(es:List (Int×Int)) (l:List (Int×Int)),(es.foldl (fun l e=>Nl l e.1 e.2) l).length=l.length by rw[h];simp
 intro es
 induction es with
 |nil=>intro l;rfl
 |cons e es ih=>
  intro l
  rw[List.foldl_cons,ih]
  unfold Nl
  split<;>simp
def LD (types:List (List UInt8)) (g:GG) (i:Nat):List (Int×Int):=((g.edges.take i).filter fun e=>decide (HT types e)).map fun e=>(e.fr,e.to)
theorem Uw {types:List (List UInt8)} {g:GG} {i:Nat} (h:¬i<g.edges.length):LD types g i=BH types g:=by
 unfold LD BH CG
 rw[List.take_of_length_le (by omega)]
theorem Tv {types:List (List UInt8)} {g:GG} {i:Nat} (h:i<g.edges.length) (he:HT types g.edges[i]):LD types g (i+1)=LD types g i++[((g.edges[i]).fr,(g.edges[i]).to)]:=by
 unfold LD
 rw[List.take_succ_eq_append_getElem h,List.filter_append,List.map_append]
 simp[he]
theorem Uu {types:List (List UInt8)} {g:GG} {i:Nat} (h:i<g.edges.length) (he:¬HT types g.edges[i]):LD types g (i+1)=LD types g i:=by
 unfold LD
 rw[List.take_succ_eq_append_getElem h,List.filter_append,List.map_append]
 simp[he]
set_option maxHeartbeats 2000000 in
theorem Afz {types:List (List UInt8)} {tn:Bool} (hl:types.length<2^63) {g:GG} (hg:g.ok) (hN:g.nodes.length<2^39) (hE:g.edges.length<2^39):
 Ar (Ae tab) 11 [g.av,.sl tn (vs .str types)] (fun v=>∃b,v=.sl b (vs pv (if Bg g=0 then O6 types g else[]))):=by
 have pc:=ZB hg
 by_cases hc:Bg g=0
 case neg=>
  rw[if_neg hc]
  refine Ad rfl rfl ?_
  (conv=>whnf);repeat' (first|(refine Aa pc ?_;rintro _ rfl;conv=>whnf)|(refine kA ?_;conv=>whnf)|(refine Br.mk (fun hc=>?_) fun hc=>?_<;>first|exact hc.elim|conv=>whnf)|(refine kB ?_))
  all_goals first|exact absurd ‹_› hc|exact⟨false,rfl⟩
 rw[if_pos hc]
 rw[hc]at pc
 refine Ad rfl rfl ?_
 (conv=>whnf);repeat' (first|(refine Aa pc ?_;rintro _ rfl;conv=>whnf)|(refine kA ?_;conv=>whnf)|(refine Br.mk (fun hc=>?_) fun hc=>?_<;>first|exact hc.elim|conv=>whnf)|(refine kB ?_))
 all_goals first|(exfalso;omega)|skip
 refine Ah (fun m env s=>∃(i c ga n:Nat) (b:Bool),m=g.nodes.length-i∧i≤g.nodes.length∧n=i∧env=[(1,.sl tn (vs .str types)),(2,.ref 0 0 0 0),(5,.own 1 ga 0 n),(6,.int .i64 i)]∧s=⟨[.arr 0 4 true true [g.av],.arr ga 2 b true (vs pv ((FD (AL g) []).take i))],c⟩) ?_ _ _ _ ⟨0,_,_,_,_,rfl,by omega,rfl,rfl,rfl⟩
 rintro _ _ _ ⟨i,c,ga,n,b,rfl,hi,rfl,rfl,rfl⟩
 refine⟨rfl,?_⟩
 have hLl:(FD (AL g) []).length=g.nodes.length:=by rw[OC,CO]
 by_cases hlt:n<g.nodes.length
 ·have hsn:(FD (AL g) []).take (n+1)=(FD (AL g) []).take n++[((g.nodes[n]).id,(g.nodes[n]).id)]:=by
   rw[List.take_succ_eq_append_getElem (by omega)]
   simp[FD,AL]
  have htl:((FD (AL g) []).take n).length=n:=by rw[List.length_take];omega
  (conv=>whnf);repeat' (first|(refine LG (f:=pv) (l:=(FD (AL g) []).take n) (x:=((g.nodes[n]).id,(g.nodes[n]).id)) Ip htl.symm (by rw[htl];omega) ?_;conv=>whnf)|(refine kA ?_;conv=>whnf)|(refine Br.mk (fun hc=>?_) fun hc=>?_<;>first|exact hc.elim|conv=>whnf)|(refine kB ?_))
  all_goals first
   |(exfalso;omega)
   |(rw [← hsn];exact again.mk ⟨_,by omega,n+1,_,_,_,_,rfl,by omega,by omega,rfl,rfl⟩)
 rw[List.take_of_length_le (by omega)]
 (conv=>whnf);repeat' (first|(refine kQ ⟨TA hLl.symm⟩ ?_;conv=>whnf)|(refine kQ ⟨TA (show n=_ by omega)⟩ ?_;conv=>whnf)|(refine kA ?_;conv=>whnf)|(refine Br.mk (fun hc=>?_) fun hc=>?_<;>first|exact hc.elim|conv=>whnf)|(refine kB ?_))
 all_goals first|(exfalso;omega)|skip
 refine Ah (fun m env s=>∃(i c:Nat) (b:Bool),m=g.edges.length-i∧env=[(1,.sl tn (vs .str types)),(2,.ref 0 0 0 0),(5,.sl b (vs pv (FD (AL g) (LD types g i)))),(7,.int .i64 i)]∧s=⟨[.arr 0 4 true true [g.av],.dead],c⟩) ?_ _ _ _ ⟨0,_,_,rfl,rfl,rfl⟩
 clear hc hlt hi
 rintro _ _ _ ⟨i,c,b,rfl,rfl,rfl⟩
 refine⟨rfl,?_⟩
 by_cases hlt:i<g.edges.length
 ·have ph:=Ut (l:=types) (e:=g.edges[i]) (nn:=tn) (by omega)
  by_cases he:HT types g.edges[i]
  ·rw[decide_eq_true he]at ph
   obtain⟨_,⟨b',rfl⟩,pj⟩:=(Ae1 (l:=FD (AL g) (LD types g i)) (a:=(g.edges[i]).fr) (b:=(g.edges[i]).to) (nn:=b) (by rw[OC,CO];omega)).Ob
   rw[show Nl (FD (AL g) (LD types g i)) (g.edges[i]).fr (g.edges[i]).to=FD (AL g) (LD types g (i+1)) by rw[Tv hlt he,QW]]at pj
   (conv=>whnf);repeat' (first|((first|refine Aa ph ?_|refine Aa pj ?_);rintro _ rfl;conv=>whnf)|(refine kA ?_;conv=>whnf)|(refine Br.mk (fun hc=>?_) fun hc=>?_<;>first|exact hc.elim|conv=>whnf)|(refine kB ?_))
   all_goals first
        |(exfalso;omega)
        |exact again.mk ⟨_,by omega,i+1,_,_,rfl,rfl,rfl⟩
  ·rw[decide_eq_false he]at ph
   (conv=>whnf);repeat' (first|(refine Aa ph ?_;rintro _ rfl;conv=>whnf)|(refine kA ?_;conv=>whnf)|(refine Br.mk (fun hc=>?_) fun hc=>?_<;>first|exact hc.elim|conv=>whnf)|(refine kB ?_))
   all_goals first
        |(exfalso;omega)
        |(rw [← Uu hlt he];exact again.mk ⟨_,by omega,i+1,_,_,rfl,rfl,rfl⟩)
 ·rw[Uw hlt]
  (conv=>whnf);repeat' (first  |(refine kA ?_;conv=>whnf)|(refine Br.mk (fun hc=>?_) fun hc=>?_<;>first|exact hc.elim|conv=>whnf)|(refine kB ?_))
  all_goals first
   |(exfalso;omega)
   |exact⟨b,rfl⟩
theorem Yo {l:List Int} {x:Int} {i:Nat} (h:x∉l.take i) (hi:i<l.length) (hx:¬l[i]=x):x∉l.take (i+1):=by
 rw[List.take_succ_eq_append_getElem hi,List.mem_append,List.mem_singleton]
 rintro(k|k)
 ·exact h k
 ·exact hx k.symm
theorem Zy {l:List Int} {x:Int} {nn:Bool} (hl:l.length<2^62):Ar (Ae tab) 19 [.sl nn (vs (.int .i64) l),.int .i64 x] (· =.bool (decide (x∈l))):=by
 refine Ad rfl rfl ?_
 (conv=>whnf);repeat' (first  |(refine kA ?_;conv=>whnf)|(refine Br.mk (fun hc=>?_) fun hc=>?_<;>first|exact hc.elim|conv=>whnf)|(refine kB ?_))
 refine Ah (fun m env s=>∃i:Nat,m=l.length-i∧env=[(0,.sl nn (vs (.int .i64) l)),(1,.int .i64 x),(5,.int .i64 i)]∧s=⟨[],0⟩∧x∉l.take i) ?_ _ _ _ ⟨0,rfl,rfl,rfl,by simp⟩
 rintro _ _ _ ⟨i,rfl,rfl,rfl,hx⟩
 refine⟨rfl,?_⟩
 by_cases hlt:i<l.length
 ·by_cases he:l[i]=x
  ·have hy:x∈l:=by rw[← he];exact List.getElem_mem _
   (conv=>whnf);repeat' (first  |(refine kA ?_;conv=>whnf)|(refine Br.mk (fun hc=>?_) fun hc=>?_<;>first|exact hc.elim|conv=>whnf)|(refine kB ?_))
   all_goals first|(exfalso;omega)|exact Ce hy
  ·(conv=>whnf);repeat' (first  |(refine kA ?_;conv=>whnf)|(refine Br.mk (fun hc=>?_) fun hc=>?_<;>first|exact hc.elim|conv=>whnf)|(refine kB ?_))
   all_goals first|(exfalso;omega)|exact again.mk ⟨_,by omega,i+1,rfl,rfl,rfl,Yo hx hlt he⟩
 ·rw[List.take_of_length_le (by omega)]at hx
  (conv=>whnf);repeat' (first  |(refine kA ?_;conv=>whnf)|(refine Br.mk (fun hc=>?_) fun hc=>?_<;>first|exact hc.elim|conv=>whnf)|(refine kB ?_))
  all_goals first|(exfalso;omega)|exact Bf hx
theorem Us {W:List Int} (h:PD W) (i:Nat):PD (W.take i):=List.Pairwise.sublist (List.take_sublist i W) h
theorem Ada {W:List Int} (h:PD W):W.Nodup:=h.imp fun h=>by omega
set_option maxHeartbeats 1000000 in
theorem ofU {W:List Int} {b:Bool} (hl:W.length≤50000) (hs:PD W):Ar (Ae tab) 86 [.sl b (vs (.int .i64) W)] (fun v=>∃b',v=.sl b' (vs (.int .i64) W)):=by
 refine Ad rfl rfl ?_
 (conv=>whnf);repeat' (first  |(refine kA ?_;conv=>whnf)|(refine Br.mk (fun hc=>?_) fun hc=>?_<;>first|exact hc.elim|conv=>whnf)|(refine kB ?_))
 refine Ah (fun m env s=>∃(i:Nat) (b':Bool),m=W.length-i∧i≤W.length∧env=[(0,.sl b (vs (.int .i64) W)),(3,.sl b' (vs (.int .i64) (W.take i))),(4,.int .i64 i)]∧s=⟨[],0⟩) ?_ _ _ _ ⟨0,false,rfl,by omega,rfl,rfl⟩
 rintro _ _ _ ⟨i,b',rfl,hi,rfl,rfl⟩
 refine⟨rfl,?_⟩
 by_cases hlt:i<W.length
 ·obtain⟨_,⟨b2,W2,rfl,h1,h2,h3⟩,pw⟩:=(Acz (W:=W.take i) (b:=b') (x:=W[i]) (by rw[List.length_take];omega) (Us hs i)).Ob
  have e:W2=W.take (i+1):=Zw h1 (Us hs _) fun y=>by rw[h3,Le hlt]
  subst e
  (conv=>whnf);repeat' (first|(refine Aa pw ?_;rintro _ rfl;conv=>whnf)|(refine kA ?_;conv=>whnf)|(refine Br.mk (fun hc=>?_) fun hc=>?_<;>first|exact hc.elim|conv=>whnf)|(refine kB ?_))
  all_goals first
   |(exfalso;omega)
   |exact again.mk ⟨_,by omega,i+1,_,rfl,by omega,rfl,rfl⟩
 ·rw[List.take_of_length_le (by omega)]
  (conv=>whnf);repeat' (first  |(refine kA ?_;conv=>whnf)|(refine Br.mk (fun hc=>?_) fun hc=>?_<;>first|exact hc.elim|conv=>whnf)|(refine kB ?_))
  all_goals first
   |(exfalso;omega)
   |exact⟨_,rfl⟩
set_option maxHeartbeats 1000000 in
theorem Adb {W:List Int} {b b0:Bool} {x:Int} (hl:W.length≤50000) (hs:PD W):Ar (Ae tab) 59 [.sl b (vs (.int .i64) W),.sl b0 [.int .i64 x]] (fun v=>∃b' W',v=.sl b' (vs (.int .i64) W')∧PD W'∧∀y,y∈W'↔y∈W∨y=x):=by
 obtain⟨_,⟨b1,rfl⟩,po⟩:=(ofU (b:=b) hl hs).Ob
 obtain⟨_,⟨b2,W2,rfl,h1,h2,h3⟩,pw⟩:=(Acz (b:=b1) (x:=x) (show W.length≤100000 by omega) hs).Ob
 refine Ad rfl rfl ?_
 (conv=>whnf);repeat' (first|(refine Aa po ?_;rintro _ rfl;conv=>whnf)|(refine kA ?_;conv=>whnf)|(refine Br.mk (fun hc=>?_) fun hc=>?_<;>first|exact hc.elim|conv=>whnf)|(refine kB ?_))
 refine Ah (fun m env s=>∃(i:Nat),m=1-i∧(i=0∨i=1)∧env=[(1,.sl b0 [.int .i64 x]),(5,if i=0 then .sl b1 (vs (.int .i64) W)else .sl b2 (vs (.int .i64) W2)),(6,.int .i64 i)]∧s=⟨[],0⟩) ?_ _ _ _ ⟨0,rfl,by omega,rfl,rfl⟩
 rintro _ _ _ ⟨i,rfl,hi,rfl,rfl⟩
 refine⟨rfl,?_⟩
 rcases hi with rfl|rfl
 ·rw[if_pos rfl]
  (conv=>whnf);repeat' (first|(refine Aa pw ?_;rintro _ rfl;conv=>whnf)|(refine kA ?_;conv=>whnf)|(refine Br.mk (fun hc=>?_) fun hc=>?_<;>first|exact hc.elim|conv=>whnf)|(refine kB ?_))
  all_goals first
   |(exfalso;omega)
   |exact again.mk ⟨_,by omega,1,rfl,by omega,rfl,rfl⟩
   |exact absurd hc (by simp)
 ·rw[if_neg (by omega)]
  (conv=>whnf);repeat' (first  |(refine kA ?_;conv=>whnf)|(refine Br.mk (fun hc=>?_) fun hc=>?_<;>first|exact hc.elim|conv=>whnf)|(refine kB ?_))
  all_goals first
   |(exfalso;omega)
   |exact⟨_,W2,rfl,h1,h3⟩
   |exact absurd hc (by simp)
set_option maxHeartbeats 4000000 in
theorem Adc {types:List (List UInt8)} {tn:Bool} (hl:types.length<2^63) {g:GG} (hg:g.ok) (hN:g.nodes.length≤10000) (hE:g.edges.length<2^39) (hck:Bg g=0) {a:Int} (ha:a∈AL g):
 Ar (Ae tab) 34 [g.av,.sl tn (vs .str types),.int .i64 a] (fun v=>∃b W,v=.sl b (vs (.int .i64) W)∧W.length≤10000∧∀x,x∈W↔Ih (Il (BH types g)) a x):=by
 have Dx:=IY hck
 have hnd:=PY hck
 have hil:=CO g
 have hlen:∀{W:List Int},PD W→(∀ y∈W,y∈AL g)→W.length≤10000:=fun h k=>by have:=List.Nodup.length_le_of_subset (Ada h) k;omega
 refine Ad rfl rfl ?_
 (conv=>whnf);repeat' (first  |(refine kA ?_;conv=>whnf)|(refine Br.mk (fun hc=>?_) fun hc=>?_<;>first|exact hc.elim|conv=>whnf)|(refine kB ?_))
 refine Ah (fun m env s=>∃(r c:Nat) (b:Bool) (W:List Int),m=g.nodes.length-r∧r≤g.nodes.length∧PD W∧(∀ y∈W,y∈AL g)∧Rounds (BH types g) r [a] W∧env=[(1,.sl tn (vs .str types)),(3,.ref 0 0 0 0),(7,.sl b (vs (.int .i64) W)),(8,.int .i64 r)]∧s=⟨[.arr 0 4 true true [g.av]],c⟩) ?_ _ _ _ ⟨0,_,_,[a],rfl,by omega,List.pairwise_singleton _ _,by simpa using ha,.zero,rfl,rfl⟩
 rintro _ _ _ ⟨r,c,b,W,rfl,hr,hW,hWi,hR,rfl,rfl⟩
 refine⟨rfl,?_⟩
 by_cases hlt:r<g.nodes.length
 case neg=>
  have hre:r=g.nodes.length:=by omega
  subst hre
  rw[← hil]at hR
  have hres:=hR.reach (ids:=AL g) (fun e he=>by
   obtain⟨x,hx,rfl⟩:=List.mem_map.1 he
   exact(Dx x (List.mem_filter.1 hx).1).2) ha
  have hWl:=hlen hW hWi
  (conv=>whnf);repeat' (first  |(refine kA ?_;conv=>whnf)|(refine Br.mk (fun hc=>?_) fun hc=>?_<;>first|exact hc.elim|conv=>whnf)|(refine kB ?_))
  all_goals first
   |(exfalso;omega)
   |exact⟨_,W,rfl,hWl,hres⟩
 (conv=>whnf);repeat' (first  |(refine kA ?_;conv=>whnf)|(refine Br.mk (fun hc=>?_) fun hc=>?_<;>first|exact hc.elim|conv=>whnf)|(refine kB ?_))
 all_goals first|(exfalso;omega)|skip
 refine Ah (fun m env s=>∃(i c:Nat) (b:Bool) (W':List Int),m=g.edges.length-i∧i≤g.edges.length∧PD W'∧(∀ y∈W',y∈AL g)∧Round (LD types g i) W W'∧env=[(1,.sl tn (vs .str types)),(3,.ref 0 0 0 0),(7,.sl b (vs (.int .i64) W')),(8,.int .i64 r),(9,.int .i64 i)]∧s=⟨[.arr 0 4 true true [g.av]],c⟩) ?_ _ _ _ ⟨0,_,_,W,rfl,by omega,hW,hWi,.nil,rfl,rfl⟩
 clear hW hWi
 rintro _ _ _ ⟨i,c,b,W',rfl,hi,hW,hWi,hQ,rfl,rfl⟩
 refine⟨rfl,?_⟩
 by_cases Zx:i<g.edges.length
 ·have ph:=Ut (l:=types) (e:=g.edges[i]) (nn:=tn) (by omega)
  have hWl:=hlen hW hWi
  have pm:=Zy (l:=W') (x:=(g.edges[i]).fr) (nn:=b) (by omega)
  obtain⟨_,⟨b2,W2,rfl,u1,u2⟩,pu⟩:=(Adb (W:=W') (b:=b) (b0:=true) (x:=(g.edges[i]).to) (by omega) hW).Ob
  by_cases h1:HT types g.edges[i]
  ·rw[decide_eq_true h1]at ph
   by_cases h3:(g.edges[i]).fr∈W'
   ·rw[decide_eq_true h3]at pm
    have q1:Round (LD types g (i+1)) W W2:=by
      rw[Tv Zx h1]
      exact hQ.snoc ⟨fun x=>by rw[u2];simp[h3]⟩
    have q2:∀y∈W2,y∈AL g:=fun y hy=>by
      rcases(u2 y).1 hy with h|rfl
      ·exact hWi y h
      ·exact(Dx _ (List.getElem_mem Zx)).2
    (conv=>whnf);repeat' (first|((first|refine Aa ph ?_|refine Aa pm ?_|refine Aa pu ?_);rintro _ rfl;conv=>whnf)|(refine kA ?_;conv=>whnf)|(refine Br.mk (fun hc=>?_) fun hc=>?_<;>first|exact hc.elim|conv=>whnf)|(refine kB ?_))
    all_goals first
      |(exfalso;omega)
      |exact again.mk ⟨_,by omega,i+1,_,_,W2,rfl,by omega,u1,q2,q1,rfl,rfl⟩
   ·rw[decide_eq_false h3]at pm
    have q1:Round (LD types g (i+1)) W W':=by
      rw[Tv Zx h1]
      exact hQ.snoc ⟨fun x=>by simp[h3]⟩
    (conv=>whnf);repeat' (first|((first|refine Aa ph ?_|refine Aa pm ?_);rintro _ rfl;conv=>whnf)|(refine kA ?_;conv=>whnf)|(refine Br.mk (fun hc=>?_) fun hc=>?_<;>first|exact hc.elim|conv=>whnf)|(refine kB ?_))
    all_goals first
      |(exfalso;omega)
      |exact again.mk ⟨_,by omega,i+1,_,_,W',rfl,by omega,hW,hWi,q1,rfl,rfl⟩
  ·rw[decide_eq_false h1]at ph
   rw[← Uu Zx h1]at hQ
   (conv=>whnf);repeat' (first|(refine Aa ph ?_;rintro _ rfl;conv=>whnf)|(refine kA ?_;conv=>whnf)|(refine Br.mk (fun hc=>?_) fun hc=>?_<;>first|exact hc.elim|conv=>whnf)|(refine kB ?_))
   all_goals first
        |(exfalso;omega)
        |exact again.mk ⟨_,by omega,i+1,_,_,W',rfl,by omega,hW,hWi,hQ,rfl,rfl⟩
 ·rw[Uw Zx]at hQ
  (conv=>whnf);repeat' (first  |(refine kA ?_;conv=>whnf)|(refine Br.mk (fun hc=>?_) fun hc=>?_<;>first|exact hc.elim|conv=>whnf)|(refine kB ?_))
  all_goals first
   |(exfalso;omega)
   |exact again.mk ⟨_,by omega,r+1,_,_,W',rfl,by omega,hW,hWi,.succ hR hQ,rfl,rfl⟩
def FK (P:Int→Prop) (ids:List Int) (a:Int) (k:Nat) (x:Int):Prop:=
 (x=a∧∀y∈ids.take k,¬P y)∨(x≠a∧∃j,j<k∧ids[j]?=some x∧P x∧∀y∈ids.take j,¬P y)
section
variable {P:Int→Prop} {ids:List Int} {a x:Int} {k:Nat}
theorem FK.start:FK P ids a 0 a:=.inl ⟨rfl,by simp⟩
theorem FK.found (h:FK P ids a k a) (hk:k<ids.length) (hne:ids[k]≠a) (hp:P ids[k]):FK P ids a (k+1) ids[k]:=by
 rcases h with⟨_,h⟩|⟨h,_⟩
 ·exact .inr ⟨hne,k,by omega,List.getElem?_eq_getElem hk,hp,h⟩
 ·exact absurd rfl h
theorem FK.none (h:FK P ids a k a) (hk:k<ids.length) (hp:¬P ids[k]):FK P ids a (k+1) a:=by
 rcases h with⟨_,h⟩|⟨h,_⟩
 ·refine .inl ⟨rfl,fun y hy=>?_⟩
  rw[List.take_succ_eq_append_getElem hk,List.mem_append,List.mem_singleton]at hy
  rcases hy with hy|rfl
  ·exact h y hy
  ·exact hp
 ·exact absurd rfl h
theorem FK.on (h:FK P ids a k x) (hx:x≠a):FK P ids a (k+1) x:=by
 rcases h with⟨h,_⟩|⟨h,j,h1,h2⟩
 ·exact absurd h hx
 ·exact .inr ⟨h,j,by omega,h2⟩
theorem Zz (hi:ids.Pairwise (· <·)) {i j:Nat} (h1:i<ids.length) (h2:j<ids.length) (h:ids[i]<ids[j]):i<j:=by
 rcases Nat.lt_trichotomy i j with k|k|k
 ·exact k
 ·subst k;omega
 ·have:=List.pairwise_iff_getElem.1 hi j i h2 h1 k;omega
theorem FK.least {nx:Int→List Int} (h:FK (fun y=>Ih nx a y∧Ih nx y a) ids a k x) (hi:ids.Pairwise (· <·)) (hk:ids[k]?=some a) (hin:∀u,Ih nx a u→u∈ids):Least nx a x:=by
 obtain⟨hkl,hka⟩:=List.getElem?_eq_some_iff.1 hk
 rcases h with⟨rfl,h⟩|⟨_,j,h1,h2,h3,h4⟩
 ·refine OG hi hin ⟨.refl,.refl⟩ fun y hy hlt=>h y ?_
  obtain⟨i,h5,rfl⟩:=List.getElem_of_mem hy
  rw[← hka]at hlt
  exact List.mem_take_iff_getElem.2 ⟨i,by have:=Zz hi h5 hkl hlt;omega,rfl⟩
 ·obtain⟨hjl,hjx⟩:=List.getElem?_eq_some_iff.1 h2
  refine OG hi hin h3 fun y hy hlt=>h4 y ?_
  obtain⟨i,h5,rfl⟩:=List.getElem_of_mem hy
  rw[← hjx]at hlt
  exact List.mem_take_iff_getElem.2 ⟨i,by have:=Zz hi h5 hjl hlt;omega,rfl⟩
end
def rwV (p:Bool×List Int):AV:=.sl p.1 (vs (.int .i64) p.2)
theorem AbC (p:Bool×List Int):(rwV p).cells.length=1:=rfl
def AcA (es:List (Int×Int)) (a:Int) (p:Bool×List Int):Prop:=p.2.length≤10000∧∀x,x∈p.2↔Ih (Il es) a x
set_option maxHeartbeats 8000000 in
theorem AbD {types:List (List UInt8)} {tn:Bool} (hl:types.length<2^63) {g:GG} (hg:g.ok) (hN:g.nodes.length≤10000) (hE:g.edges.length<2^39):
 Ar (Ae tab) 13 [g.av,.sl tn (vs .str types)] (fun v=>∃b l,v=.sl b (vs pv l)∧(Bg g≠0→l=[])∧(Bg g=0→Gq (AL g) (BH types g) l)):=by
 have pc:=ZB hg
 by_cases hck:Bg g=0
 case neg=>
  refine Ad rfl rfl ?_
  (conv=>whnf);repeat' (first|(refine Aa pc ?_;rintro _ rfl;conv=>whnf)|(refine kA ?_;conv=>whnf)|(refine Br.mk (fun hc=>?_) fun hc=>?_<;>first|exact hc.elim|conv=>whnf)|(refine kB ?_))
  all_goals first|exact absurd ‹_› hck|exact⟨false,[],rfl,fun _=>rfl,fun h=>absurd h hck⟩
 have Dx:=IY hck
 have hinc:=Tz hck
 have hil:=CO g
 have hes:∀e∈BH types g,e.1∈AL g∧e.2∈AL g:=fun e he=>by
  obtain⟨x,hx,rfl⟩:=List.mem_map.1 he
  exact Dx x (List.mem_filter.1 hx).1
 have hin:∀{a u:Int},a∈AL g→Ih (Il (BH types g)) a u→u∈AL g:=fun ha h=>h.stay (C:=fun u=>u∈AL g) (fun v hv w hw=>(hes _ (KQ.1 hw)).2) ha
 rw[hck]at pc
 refine Ad rfl rfl ?_
 (conv=>whnf);repeat' (first|(refine Aa pc ?_;rintro _ rfl;conv=>whnf)|(refine kA ?_;conv=>whnf)|(refine Br.mk (fun hc=>?_) fun hc=>?_<;>first|exact hc.elim|conv=>whnf)|(refine kB ?_))
 all_goals first|(exfalso;omega)|skip
 refine Ah (fun m env s=>∃(i c ga n:Nat) (b:Bool) (R:List (Bool×List Int)),m=g.nodes.length-i∧i≤g.nodes.length∧n=i∧R.length=i∧(∀ j (h:j<R.length) (h':j<(AL g).length),AcA (BH types g) (AL g)[j] R[j])∧env=[(1,.sl tn (vs .str types)),(2,.ref 0 0 0 0),(5,.own 1 ga 0 n),(6,.int .i64 i)]∧s=⟨[.arr 0 4 true true [g.av],.arr ga 1 b true (vs rwV R)],c⟩) ?_ _ _ _ ⟨0,_,_,_,_,[],rfl,by omega,rfl,rfl,by simp,rfl,rfl⟩
 rintro _ _ _ ⟨i,c,ga,n,b,R,rfl,hi,rfl,hRl,hR,rfl,rfl⟩
 refine⟨rfl,?_⟩
 by_cases hlt:n<g.nodes.length
 ·have ha:(g.nodes[n]).id∈AL g:=List.mem_map_of_mem (List.getElem_mem hlt)
  obtain⟨_,⟨b1,W,rfl,hW1,hW2⟩,pr⟩:=(Adc (types:=types) (tn:=tn) hl hg hN hE hck ha).Ob
  have hR':∀j (h:j<(R++[(b1,W)]).length) (h':j<(AL g).length),AcA (BH types g) (AL g)[j] (R++[(b1,W)])[j]:=fun j h h'=>by
   by_cases e:j<R.length
   ·rw[List.getElem_append_left e];exact hR j e h'
   ·have:j=n:=by simp at h;omega
    subst this
    rw[List.getElem_append_right (by omega)]
    simp only[hRl,Nat.sub_self,List.getElem_cons_zero]
    rw[Io hlt]
    exact⟨hW1,hW2⟩
  (conv=>whnf);repeat' (first|(refine Aa pr ?_;rintro _ rfl;conv=>whnf)|(refine LG (f:=rwV) (l:=R) (x:=(b1,W)) AbC hRl.symm (by omega) ?_;conv=>whnf)|(refine kA ?_;conv=>whnf)|(refine Br.mk (fun hc=>?_) fun hc=>?_<;>first|exact hc.elim|conv=>whnf)|(refine kB ?_))
  all_goals first
   |(exfalso;omega)
   |exact again.mk ⟨_,by omega,n+1,_,_,_,_,R++[(b1,W)],rfl,by omega,by omega,by simp[hRl],hR',rfl,rfl⟩
 have hne:n=g.nodes.length:=by omega
 subst hne
 (conv=>whnf);repeat' (first  |(refine kA ?_;conv=>whnf)|(refine Br.mk (fun hc=>?_) fun hc=>?_<;>first|exact hc.elim|conv=>whnf)|(refine kB ?_))
 all_goals first|(exfalso;omega)|skip
 refine Ah (fun m env s=>∃(i c gb n:Nat) (b':Bool) (l:List (Int×Int)),m=g.nodes.length-i∧i≤g.nodes.length∧n=i∧l.length=i∧l.map (·.1)=(AL g).take i∧(∀ p∈l,Least (Il (BH types g)) p.1 p.2)∧env=[(2,.ref 0 0 0 0),(5,.own 1 ga 0 g.nodes.length),(7,.own 2 gb 0 n),(8,.int .i64 i)]∧s=⟨[.arr 0 4 true true [g.av],.arr ga 1 b true (vs rwV R),.arr gb 2 b' true (vs pv l)],c⟩) ?_ _ _ _ ⟨0,_,_,_,_,[],rfl,by omega,rfl,rfl,by simp,by simp,rfl,rfl⟩
 clear hlt hi
 rintro _ _ _ ⟨i,c,gb,n,b',l,rfl,hi,rfl,hll,hl1,hl2,rfl,rfl⟩
 refine⟨rfl,?_⟩
 by_cases hlt:n<g.nodes.length
 case neg=>
  (conv=>whnf);repeat' (first  |(refine kA ?_;conv=>whnf)|(refine Br.mk (fun hc=>?_) fun hc=>?_<;>first|exact hc.elim|conv=>whnf)|(refine kB ?_))
  all_goals first
   |(exfalso;omega)
   |(refine ⟨b',l,?_,fun h=>absurd hck h,fun _=>⟨by rw[hl1,List.take_of_length_le (by omega)],hl2⟩⟩;first|rfl|exact congrArg (AV.sl b') (TA (by omega)))
 have han:(AL g)[n]'(by omega)=(g.nodes[n]).id:=Io hlt
 have ha:(g.nodes[n]).id∈AL g:=by rw[← han];exact List.getElem_mem _
 (conv=>whnf);repeat' (first  |(refine kA ?_;conv=>whnf)|(refine Br.mk (fun hc=>?_) fun hc=>?_<;>first|exact hc.elim|conv=>whnf)|(refine kB ?_))
 all_goals first|(exfalso;omega)|skip
 refine Ah (fun m env s=>∃(k c:Nat) (x:Int),m=n-k∧k≤n∧FK (fun y=>Ih (Il (BH types g)) (g.nodes[n]).id y∧Ih (Il (BH types g)) y (g.nodes[n]).id) (AL g) (g.nodes[n]).id k x∧env=[(2,.ref 0 0 0 0),(5,.own 1 ga 0 g.nodes.length),(7,.own 2 gb 0 n),(8,.int .i64 n),(9,.int .i64 (g.nodes[n]).id),(10,.int .i64 x),(11,.int .i64 k)]∧s=⟨[.arr 0 4 true true [g.av],.arr ga 1 b true (vs rwV R),.arr gb 2 b' true (vs pv l)],c⟩) ?_ _ _ _ ⟨0,_,_,rfl,by omega,.start,rfl,rfl⟩
 rintro _ _ _ ⟨k,c,x,rfl,hk,hx,rfl,rfl⟩
 refine⟨rfl,?_⟩
 by_cases hkl:k<n
 case neg=>
  have hkn:k=n:=by omega
  subst hkn
  have Agb:=hx.least hinc (by rw[List.getElem?_eq_getElem (by omega),han]) (fun u hu=>hin ha hu)
  have m1:(l++[((g.nodes[k]).id,x)]).map (·.1)=(AL g).take (k+1):=by rw[List.map_append,hl1,F6 hlt];rfl
  have m2:∀p∈l++[((g.nodes[k]).id,x)],Least (Il (BH types g)) p.1 p.2:=fun p hp=>by
   rcases List.mem_append.1 hp with h|h
   ·exact hl2 p h
   ·rw[List.mem_singleton.1 h];exact Agb
  (conv=>whnf);repeat' (first|(refine LG (f:=pv) (l:=l) (x:=((g.nodes[k]).id,x)) Ip hll.symm (by omega) ?_;conv=>whnf)|(refine kA ?_;conv=>whnf)|(refine Br.mk (fun hc=>?_) fun hc=>?_<;>first|exact hc.elim|conv=>whnf)|(refine kB ?_))
  all_goals first
   |(exfalso;omega)
   |exact again.mk ⟨_,by omega,k+1,_,_,_,_,l++[((g.nodes[k]).id,x)],rfl,by omega,by omega,by simp[hll],m1,m2,rfl,rfl⟩
 have hk2:k<g.nodes.length:=by omega
 have hbn:(AL g)[k]'(by omega)=(g.nodes[k]).id:=Io hk2
 by_cases hxa:x=(g.nodes[n]).id
 ·subst hxa
  have hne2:(g.nodes[k]).id≠(g.nodes[n]).id:=by
   have:=List.pairwise_iff_getElem.1 hinc k n (by omega) (by omega) hkl
   rw[han,hbn]at this;omega
  obtain⟨rn1,rn2⟩:=hR n (by omega) (by omega)
  obtain⟨rk1,rk2⟩:=hR k (by omega) (by omega)
  rw[han]at rn2
  rw[hbn]at rk2
  have hn1:∀j,j=n→nth (vs rwV R) j=some (.sl (R[n]'(by omega)).1 (vs (.int .i64) (R[n]'(by omega)).2)):=fun j hj=>by subst hj;exact nVN (f:=rwV) (by omega)
  have hk1:∀j,j=k→nth (vs rwV R) j=some (.sl (R[k]'(by omega)).1 (vs (.int .i64) (R[k]'(by omega)).2)):=fun j hj=>by subst hj;exact nVN (f:=rwV) (by omega)
  generalize R[n]'(by omega)=pn at rn1 rn2 hn1
  generalize R[k]'(by omega)=pk at rk1 rk2 hk1
  have p1:=Zy (l:=pn.2) (x:=(g.nodes[k]).id) (nn:=pn.1) (by omega)
  have p2:=Zy (l:=pk.2) (x:=(g.nodes[n]).id) (nn:=pk.1) (by omega)
  by_cases h1:(g.nodes[k]).id∈pn.2
  ·rw[decide_eq_true h1]at p1
   by_cases h2:(g.nodes[n]).id∈pk.2
   ·rw[decide_eq_true h2]at p2
    have hx':=hx.found (by omega) (by rw[hbn];exact hne2) (by rw[hbn];exact⟨(rn2 _).1 h1,(rk2 _).1 h2⟩)
    rw[hbn]at hx'
    (conv=>whnf);repeat' (first|(refine Am (hn1 _ (by omega)) ?_;conv=>whnf)|(refine Am (hk1 _ (by omega)) ?_;conv=>whnf)|((first|refine Aa p1 ?_|refine Aa p2 ?_);rintro _ rfl;conv=>whnf)|(refine kA ?_;conv=>whnf)|(refine Br.mk (fun hc=>?_) fun hc=>?_<;>first|exact hc.elim|conv=>whnf)|(refine kB ?_))
    all_goals first
      |(exfalso;omega)
      |exact again.mk ⟨_,by omega,k+1,_,_,rfl,by omega,hx',rfl,rfl⟩
      |exact absurd rfl ‹_›
   ·rw[decide_eq_false h2]at p2
    have hx':=hx.none (by omega) (fun h=>h2 ((rk2 _).2 (by rw[hbn]at h;exact h.2)))
    (conv=>whnf);repeat' (first|(refine Am (hn1 _ (by omega)) ?_;conv=>whnf)|(refine Am (hk1 _ (by omega)) ?_;conv=>whnf)|((first|refine Aa p1 ?_|refine Aa p2 ?_);rintro _ rfl;conv=>whnf)|(refine kA ?_;conv=>whnf)|(refine Br.mk (fun hc=>?_) fun hc=>?_<;>first|exact hc.elim|conv=>whnf)|(refine kB ?_))
    all_goals first
      |(exfalso;omega)
      |exact again.mk ⟨_,by omega,k+1,_,_,rfl,by omega,hx',rfl,rfl⟩
      |exact absurd rfl ‹_›
  ·rw[decide_eq_false h1]at p1
   have hx':=hx.none (by omega) (fun h=>h1 ((rn2 _).2 (by rw[hbn]at h;exact h.1)))
   (conv=>whnf);repeat' (first|(refine Am (hn1 _ (by omega)) ?_;conv=>whnf)|(refine Aa p1 ?_;rintro _ rfl;conv=>whnf)|(refine kA ?_;conv=>whnf)|(refine Br.mk (fun hc=>?_) fun hc=>?_<;>first|exact hc.elim|conv=>whnf)|(refine kB ?_))
   all_goals first
        |(exfalso;omega)
        |exact again.mk ⟨_,by omega,k+1,_,_,rfl,by omega,hx',rfl,rfl⟩
        |exact absurd rfl ‹_›
 ·have hx':=hx.on hxa
  (conv=>whnf);repeat' (first  |(refine kA ?_;conv=>whnf)|(refine Br.mk (fun hc=>?_) fun hc=>?_<;>first|exact hc.elim|conv=>whnf)|(refine kB ?_))
  all_goals first
   |(exfalso;omega)
   |exact again.mk ⟨_,by omega,k+1,_,_,rfl,by omega,hx',rfl,rfl⟩
   |exact absurd ‹_› hxa
section
open Go
set_option maxRecDepth 100000 in
theorem V5:Es (run (Ae tab) 60) 8 []=some (.bool true):=by kernel_rfl
end
theorem LH:Ar (Ae tab) 8 [] (· =.bool true):=⟨.bool true,⟨60,V5⟩,rfl⟩
def VQ:Nat→AV→Prop
 |0,_=>False
 |d+1,a=>∃g:GV,a=g.av∧g.ok∧g.s.length≤101000∧g.l.length≤2000∧∀x∈g.l,VQ d x
theorem wei:∀(d:Nat),d≤12→∀{g:GV} (hg:g.ok) {left:Int} (h1:-184467440737095530≤left) (h2:left≤2000),
 Ar (Ae tab) 78 [g.av,.int .i64 left,.int .i64 d] (fun v=>∃r,v=.int .i64 r∧-368934881474191048≤r∧r≤1999∧(0≤r→r+1≤left∧VQ d g.av)):=by
 intro d
 induction d with
 |zero=>
  intro _ g hg left h1 h2
  obtain⟨g1,g2,g3,g4,g5,g6,g7⟩:=hg
  unfold Ln at g4 g5
  refine Ad rfl rfl ?_
  (conv=>whnf);repeat' (first|(refine kA ?_;conv=>whnf)|(refine Br.mk (fun hc=>?_) fun hc=>?_<;>first|exact hc.elim|conv=>whnf)|(refine Rx (by omega) ?_;conv=>whnf)|(refine kB ?_))
  all_goals exact⟨_,rfl,by omega,by omega,fun h=>absurd h (by omega)⟩
 |succ d ih=>
  intro hd g hg left h1 h2
  obtain⟨g1,g2,g3,g4,g5,g6,g7⟩:=hg
  unfold Ln at g4 g5
  refine Ad rfl rfl ?_
  (conv=>whnf);repeat' (first|(refine kA ?_;conv=>whnf)|(refine Br.mk (fun hc=>?_) fun hc=>?_<;>first|exact hc.elim|conv=>whnf)|(refine Rx (by omega) ?_;conv=>whnf)|(refine kB ?_))
  have hw:∀{g:GV} (hg:g.ok) {left:Int} (h1:-184467440737095530≤left) (h2:left≤2000),
        Ar (Ae tab) 78 [g.av,.int .i64 left,.int .i64 (((d+1:Nat):Int)-1)] (fun v=>∃r,v=.int .i64 r∧-368934881474191048≤r∧r≤1999∧(0≤r→r+1≤left∧VQ d g.av)):=by
   rw[show ((d+1:Nat):Int)-1=(d:Int) by omega]
   exact ih (by omega)
  refine Ah (fun m env s=>∃(i:Nat) (cur:Int),m=g.l.length-i∧env=[(1,.int .i64 cur),(2,.int .i64 (d+1:Nat)),(3,.ref 0 0 0 0),(7,.int .i64 i)]∧s=⟨[.arr 0 5 true true [g.av]],1⟩∧
   -368934881474191048≤cur∧cur≤1999∧(0≤cur→cur+i+g.s.length / 50+1≤left∧∀x∈g.l.take i,VQ d x)) ?_ _ _ _ ⟨0,_,rfl,rfl,rfl,by omega,by omega,fun h=>⟨by omega,by simp⟩⟩
  rintro _ _ _ ⟨i,cur,rfl,rfl,rfl,b1,b2,hx⟩
  refine⟨rfl,?_⟩
  obtain⟨gx,hgx⟩:=Tt g7 i
  (conv=>whnf);repeat' (first|(refine kA ?_;conv=>whnf)|(refine Br.mk (fun hc=>?_) fun hc=>?_<;>first|exact hc.elim|conv=>whnf)|(apply Am;(· exact(hgx (by omega)).1);conv=>whnf)|(refine kB ?_))
  ·obtain⟨_,ge,gl⟩:=hgx (by omega)
   refine Aa (hw gl (by omega) (by omega)) ?_
   rintro _ ⟨r,rfl,r1,r2,r3⟩
   (conv=>whnf);repeat' (first|(refine kA ?_;conv=>whnf)|(refine Br.mk (fun hc=>?_) fun hc=>?_<;>first|exact hc.elim|conv=>whnf)  |(refine kB ?_))
   exact again.mk ⟨_,by omega,i+1,r,rfl,rfl,rfl,by omega,by omega,fun h=>⟨by have:=hx (by omega);have:=r3 h;omega,Bo (by omega) (hx (by omega)).2 (ge▸(r3 h).2)⟩⟩
  ·exact⟨_,rfl,by omega,by omega,fun h=>absurd h (by omega)⟩
  ·refine⟨_,rfl,by omega,by omega,fun h=>?_⟩
   obtain⟨x1,x2⟩:=hx h
   rw[CZ hc]at x2
   exact⟨by omega,g,rfl,⟨g1,g2,g3,g4,g5,g6,g7⟩,by omega,by omega,x2⟩
theorem weigh {ps:List GP} {nn:Bool} (hl:Ln ps) (hp:∀p∈ps,p.ok) {left:Int} (h1:-9223372036854775808≤left) (h2:left≤2000):
 Ar (Ae tab) 44 [.sl nn (vs GP.av ps),.int .i64 left] (fun v=>∃r,v=.int .i64 r∧-9223372036854775808≤r∧r≤2000∧(0≤r→r+ps.length≤left∧∀p∈ps,p.key.length≤101000∧VQ 12 p.v.av)):=by
 unfold Ln at hl
 refine Ad rfl rfl ?_
 (conv=>whnf);repeat' (first|(refine kA ?_;conv=>whnf)|(refine Br.mk (fun hc=>?_) fun hc=>?_<;>first|exact hc.elim|conv=>whnf)  |(refine kB ?_))
 refine Ah (fun m env s=>∃(i:Nat) (cur:Int),m=ps.length-i∧env=[(0,.sl nn (vs GP.av ps)),(1,.int .i64 cur),(5,.int .i64 i)]∧s=⟨[],0⟩∧
  -9223372036854775808≤cur∧cur≤2000∧(0≤cur→cur+i≤left∧∀p∈ps.take i,p.key.length≤101000∧VQ 12 p.v.av)) ?_ _ _ _ ⟨0,_,rfl,rfl,rfl,by omega,by omega,fun h=>⟨by omega,by simp⟩⟩
 rintro _ _ _ ⟨i,cur,rfl,rfl,rfl,b1,b2,hx⟩
 refine⟨rfl,?_⟩
 have hat:∀(h:i<ps.length),(ps[i]).ok:=fun h=>hp _ (List.getElem_mem _)
 have hk:∀(h:i<ps.length),(ps[i]).key.length<2^63:=fun h=>(hat h).1
 (conv=>whnf);repeat' (first|(refine kA ?_;conv=>whnf)|(refine Br.mk (fun hc=>?_) fun hc=>?_<;>first|exact hc.elim|conv=>whnf)|(refine Rx (hk (by omega)) ?_;conv=>whnf)|(have hwr:=hk (by omega);apply DT;(· exact wrap_i64 (by omega) (by omega));clear hwr;conv=>whnf)|(refine kB ?_))
 ·refine Aa (wei 12 (by omega) (hat (by omega)).2 (by have:=hk (by omega);omega) (by omega)) ?_
  rintro _ ⟨r,rfl,r1,r2,r3⟩
  (conv=>whnf);repeat' (first|(refine kA ?_;conv=>whnf)|(refine Br.mk (fun hc=>?_) fun hc=>?_<;>first|exact hc.elim|conv=>whnf)  |(refine kB ?_))
  exact again.mk ⟨_,by omega,i+1,r,rfl,rfl,rfl,by omega,by omega,fun h=>⟨by have:=hx (by omega);have:=r3 h;omega,Bo (by omega) (hx (by omega)).2 ⟨by have:=r3 h;omega,(r3 h).2⟩⟩⟩
 ·exact⟨_,rfl,by omega,by omega,fun h=>absurd h (by omega)⟩
 ·refine⟨_,rfl,by omega,by omega,fun h=>?_⟩
  obtain⟨x1,x2⟩:=hx h
  rw[CZ hc]at x2
  exact⟨by omega,x2⟩
def SmP (ps:List GP):Prop:=ps.length≤2000∧∀p∈ps,p.key.length≤101000∧VQ 12 p.v.av
def SmN (n:GN):Prop:=n.labels.length≤2000∧(∀ s∈n.labels,s.length≤101000)∧SmP n.props
def SmE (e:GE):Prop:=e.ty.length≤101000∧SmP e.props
def SmG (g:GG) (n e:Int):Prop:=g.nodes.length≤n∧g.edges.length≤e∧(∀ n∈g.nodes,SmN n)∧∀e∈g.edges,SmE e
theorem small {g:GG} (hg:g.ok) {n e:Int}:Ar (Ae tab) 21 [g.av,.int .i64 n,.int .i64 e] (fun v=>∃b,v=.bool b∧(b=true→SmG g n e)):=by
 obtain⟨g1,g2,g3,g4,g5,g6,g7,g8⟩:=hg
 unfold Ln at g1 g4
 refine Ad rfl rfl ?_
 (conv=>whnf);repeat' (first|(refine kA ?_;conv=>whnf)|(refine Br.mk (fun hc=>?_) fun hc=>?_<;>first|exact hc.elim|conv=>whnf)  |(refine kB ?_))
 ·exact⟨_,rfl,fun h=>by cases h⟩
 ·exact⟨_,rfl,fun h=>by cases h⟩
 refine Ah (fun m env s=>∃(i c:Nat) (left:Int),m=g.nodes.length-i∧env=[(3,.ref 0 0 0 0),(7,.int .i64 left),(8,.int .i64 i)]∧s=⟨[.arr 0 4 true true [g.av]],c⟩∧-9223372036854775808≤left∧left≤2000∧(0≤left→∀n∈g.nodes.take i,SmN n)) ?_ _ _ _ ⟨0,1,2000,rfl,rfl,rfl,by omega,by omega,fun _=>by simp⟩
 rintro _ _ _ ⟨i,c,left,rfl,rfl,rfl,b1,b2,hx⟩
 refine⟨rfl,?_⟩
 have hat:∀h:i<g.nodes.length,(g.nodes[i]).ok:=fun h=>g3 _ (List.getElem_mem _)
 have hk:∀h:i<g.nodes.length,(g.nodes[i]).labels.length<2^63:=fun h=>(hat h).2.1
 (conv=>whnf);repeat' (first|(refine kA ?_;conv=>whnf)|(refine Br.mk (fun hc=>?_) fun hc=>?_<;>first|exact hc.elim|conv=>whnf)|(have hwr:=hk (by omega);apply DT;(· exact wrap_i64 (by omega) (by omega));clear hwr;conv=>whnf)|(refine kB ?_))
 rotate_left
 ·have hN:0≤left→∀n∈g.nodes,SmN n:=fun h=>absurd h (by omega)
  refine Ah (fun m env s=>∃(i c:Nat) (left:Int),m=g.edges.length-i∧env=[(3,.ref 0 0 0 0),(7,.int .i64 left),(11,.int .i64 i)]∧s=⟨[.arr 0 4 true true [g.av]],c⟩∧-9223372036854775808≤left∧left≤2000∧(0≤left→(∀ n∈g.nodes,SmN n)∧∀n∈g.edges.take i,SmE n)) ?_ _ _ _ ⟨0,_,left,rfl,rfl,rfl,by omega,by omega,fun h=>⟨hN h,by simp⟩⟩
  clear hN hx hat hk b1 b2 hc
  rintro _ _ _ ⟨i,c,left,rfl,rfl,rfl,b1,b2,hx⟩
  refine⟨rfl,?_⟩
  have hat:∀h:i<g.edges.length,(g.edges[i]).ok:=fun h=>g6 _ (List.getElem_mem _)
  have hk:∀h:i<g.edges.length,(g.edges[i]).ty.length<2^63:=fun h=>(hat h).2.2.2.1
  (conv=>whnf);repeat' (first|(refine kA ?_;conv=>whnf)|(refine Br.mk (fun hc=>?_) fun hc=>?_<;>first|exact hc.elim|conv=>whnf)|(refine Rx (hk (by omega)) ?_;conv=>whnf)|(have hwr:=hk (by omega);apply DT;(· exact wrap_i64 (by omega) (by omega));clear hwr;conv=>whnf)|(refine kB ?_))
  ·refine Aa (weigh (hat (by omega)).2.2.2.2.1 (hat (by omega)).2.2.2.2.2.2 (by have:=hk (by omega);omega) (by omega)) ?_
   rintro _ ⟨r,rfl,r1,r2,r3⟩
   (conv=>whnf);repeat' (first|(refine kA ?_;conv=>whnf)|(refine Br.mk (fun hc=>?_) fun hc=>?_<;>first|exact hc.elim|conv=>whnf)  |(refine kB ?_))
   have hk1:=hk (by omega)
   exact again.mk ⟨_,by omega,i+1,_,r,rfl,rfl,rfl,by omega,by omega,fun h=>⟨(hx (by omega)).1,Bo (by omega) (hx (by omega)).2 ⟨by have:=r3 h;omega,by have:=r3 h;omega,(r3 h).2⟩⟩⟩
  all_goals first
   |exact⟨_,rfl,fun h=>absurd h Bool.false_ne_true⟩
   |(refine ⟨_,rfl,fun h=>?_⟩
     rename_i hc1
     obtain⟨x1,x2⟩:=hx hc
     rw[CZ hc1]at x2
     exact⟨by omega,by omega,x1,x2⟩)
 ·have hN:0≤left→∀n∈g.nodes,SmN n:=by rw[CZ hc]at hx;exact hx
  refine Ah (fun m env s=>∃(i c:Nat) (left:Int),m=g.edges.length-i∧env=[(3,.ref 0 0 0 0),(7,.int .i64 left),(11,.int .i64 i)]∧s=⟨[.arr 0 4 true true [g.av]],c⟩∧-9223372036854775808≤left∧left≤2000∧(0≤left→(∀ n∈g.nodes,SmN n)∧∀n∈g.edges.take i,SmE n)) ?_ _ _ _ ⟨0,_,left,rfl,rfl,rfl,by omega,by omega,fun h=>⟨hN h,by simp⟩⟩
  clear hN hx hat hk b1 b2 hc
  rintro _ _ _ ⟨i,c,left,rfl,rfl,rfl,b1,b2,hx⟩
  refine⟨rfl,?_⟩
  have hat:∀h:i<g.edges.length,(g.edges[i]).ok:=fun h=>g6 _ (List.getElem_mem _)
  have hk:∀h:i<g.edges.length,(g.edges[i]).ty.length<2^63:=fun h=>(hat h).2.2.2.1
  (conv=>whnf);repeat' (first|(refine kA ?_;conv=>whnf)|(refine Br.mk (fun hc=>?_) fun hc=>?_<;>first|exact hc.elim|conv=>whnf)|(refine Rx (hk (by omega)) ?_;conv=>whnf)|(have hwr:=hk (by omega);apply DT;(· exact wrap_i64 (by omega) (by omega));clear hwr;conv=>whnf)|(refine kB ?_))
  ·refine Aa (weigh (hat (by omega)).2.2.2.2.1 (hat (by omega)).2.2.2.2.2.2 (by have:=hk (by omega);omega) (by omega)) ?_
   rintro _ ⟨r,rfl,r1,r2,r3⟩
   (conv=>whnf);repeat' (first|(refine kA ?_;conv=>whnf)|(refine Br.mk (fun hc=>?_) fun hc=>?_<;>first|exact hc.elim|conv=>whnf)  |(refine kB ?_))
   have hk1:=hk (by omega)
   exact again.mk ⟨_,by omega,i+1,_,r,rfl,rfl,rfl,by omega,by omega,fun h=>⟨(hx (by omega)).1,Bo (by omega) (hx (by omega)).2 ⟨by have:=r3 h;omega,by have:=r3 h;omega,(r3 h).2⟩⟩⟩
  all_goals first
   |exact⟨_,rfl,fun h=>absurd h Bool.false_ne_true⟩
   |(refine ⟨_,rfl,fun h=>?_⟩
     rename_i hc1
     obtain⟨x1,x2⟩:=hx hc
     rw[CZ hc1]at x2
     exact⟨by omega,by omega,x1,x2⟩)
 refine Aa (weigh (hat (by omega)).2.2.2.2.1 (hat (by omega)).2.2.2.2.2.2 (by have:=hk (by omega);omega) (by omega)) ?_
 rintro _ ⟨r,rfl,r1,r2,r3⟩
 (conv=>whnf);repeat' (first|(refine kA ?_;conv=>whnf)|(refine Br.mk (fun hc=>?_) fun hc=>?_<;>first|exact hc.elim|conv=>whnf)  |(refine kB ?_))
 refine Ah (fun m env s=>∃(j:Nat) (l2:Int),m=(g.nodes[i]).labels.length-j∧env=[(3,.ref 0 0 0 0),(7,.int .i64 l2),(8,.int .i64 i),(9,.ref 1 c 0 0),(10,.int .i64 j)]∧s=⟨[.arr 0 4 true true [g.av],.arr c 3 true true [(g.nodes[i]).av]],c+1⟩∧-9223372036854775808≤l2∧l2≤2000∧(0≤l2→0≤r∧∀s∈(g.nodes[i]).labels.take j,s.length≤101000)) ?_ _ _ _ ⟨0,r,rfl,rfl,rfl,by omega,by omega,fun h=>⟨h,by simp⟩⟩
 rintro _ _ _ ⟨j,l2,rfl,rfl,rfl,d1,d2,hy⟩
 refine⟨rfl,?_⟩
 have hlb:∀h:j<(g.nodes[i]).labels.length,((g.nodes[i]).labels[j]).length<2^63:=fun h=>(hat (by omega)).2.2.2.1 _ (List.getElem_mem _)
 have hk1:=hk (by omega)
 (conv=>whnf);repeat' (first|(refine kA ?_;conv=>whnf)|(refine Br.mk (fun hc=>?_) fun hc=>?_<;>first|exact hc.elim|conv=>whnf)|(refine Rx (hlb (by omega)) ?_;conv=>whnf)|(have hwr:=hlb (by omega);apply DT;(· exact wrap_i64 (by omega) (by omega));clear hwr;conv=>whnf)|(refine kB ?_))
 ·have:=hlb (by omega)
  exact again.mk ⟨_,by omega,j+1,_,rfl,rfl,rfl,by omega,by omega,fun h=>⟨(hy (by omega)).1,Bo (by omega) (hy (by omega)).2 (by omega)⟩⟩
 ·exact again.mk ⟨_,by omega,i+1,_,l2,rfl,rfl,rfl,by omega,by omega,fun h=>absurd h (by omega)⟩
 ·refine again.mk ⟨_,by omega,i+1,_,l2,rfl,rfl,rfl,by omega,by omega,fun h=>?_⟩
  obtain⟨y1,y2⟩:=hy h
  rw[CZ hc]at y2
  have:=r3 y1
  exact Bo (by omega) (hx (by omega)) ⟨by omega,y2,by omega,this.2⟩
theorem ZE {g:GG} (hg:g.ok):Ar (Ae tab) 7 [g.av] (fun v=>∃b,v=.bool b∧(b=true→g.nodes.length≤20∧g.edges.length≤40)):=by
 obtain⟨_,⟨b,rfl,hb⟩,p⟩:=(small hg (n:=20) (e:=40)).Ob
 refine Ad rfl rfl ?_
 (conv=>whnf);repeat' (first|(refine Aa p ?_;rintro _ rfl;conv=>whnf)|(refine kA ?_;conv=>whnf)|(refine Br.mk (fun hc=>?_) fun hc=>?_<;>first|exact hc.elim|conv=>whnf)|(refine kB ?_))
 all_goals first
  |(refine ⟨true,rfl,fun h=>?_⟩;have:=hb (by assumption);unfold SmG at this;omega)
  |exact⟨false,rfl,fun h=>by cases h⟩
theorem P5 {a:AV} (h:Like Tryz.prog 26 a):∃nn l,a=.sl nn (vs .str l)∧l.length<2^63:=by
 obtain⟨d,h⟩:=h
 obtain⟨nn,l,e,_,h2,_⟩:=Zh (f:=AV.str) (Q:=Ln) Tryz.underlying26 (fun d x h=>by
  obtain⟨k,e1,h1⟩:=OE Tryz.underlying9 h
  exact⟨k,e1,RI h1⟩) h
 exact⟨nn,l,e,RI h2⟩
theorem Xx {α:Type} {f:α→AV} {l:List α} {n:Nat} (h:n=l.length):sub (vs f l) 0 n=vs f l:=by
 subst h
 exact uV
theorem Gq.len {S:List Int} {es l:List (Int×Int)} (h:Gq S es l):l.length=S.length:=by
 have:=congrArg List.length h.nm
 simpa using this
theorem Aa0 {types:List (List UInt8)} {g:GG}:(if Bg g=0 then O6 types g else[]).length≤g.nodes.length:=by
 split
 ·rw[show O6 types g=FD (AL g) (BH types g) from rfl,OC,CO];exact Nat.le_refl _
 ·exact Nat.zero_le _
set_option maxHeartbeats 2000000 in
theorem Yb:∀xs,likes Tryz.prog [25,26] xs→BL (Ae tab) 3 xs ⟨[],0⟩ fun out _=>out=.ok (.bool true):=by
 intro xs h
 match xs,h with
 |[x,y],h=>
  obtain⟨h1,h2,_⟩:=h
  obtain⟨g,rfl,hg⟩:=Xf h1
  obtain⟨tn,types,rfl,hl⟩:=P5 h2
  obtain⟨_,⟨b,rfl,hb⟩,p0⟩:=(ZE hg).Ob
  refine BI rfl rfl ?_
  cases b with
  |false=>
   (conv=>whnf);repeat' (first|((first|refine Aa LH ?_|refine Aa p0 ?_);rintro _ rfl;conv=>whnf)|(refine kA ?_;conv=>whnf)|(refine Br.mk (fun hc=>?_) fun hc=>?_<;>first|exact hc.elim|conv=>whnf)|(refine kB ?_))
   all_goals first|rfl
  |true=>
   obtain⟨hN,hE⟩:=hb rfl
   obtain⟨_,⟨b1,rfl,_⟩,p1⟩:=(Afy (types:=types) (tn:=tn) hl hg (by omega) (by omega)).Ob
   obtain⟨_,⟨b2,rfl⟩,p2⟩:=(Afz (types:=types) (tn:=tn) hl hg (by omega) (by omega)).Ob
   obtain⟨_,⟨b3,l,rfl,s1,s2⟩,p3⟩:=(Xw (types:=types) (tn:=tn) hl hg (by omega) (by omega)).Ob
   obtain⟨_,⟨b4,m,rfl,t1,t2⟩,p4⟩:=(AbD (types:=types) (tn:=tn) hl hg (by omega) (by omega)).Ob
   have hml:l=m∧l.length≤20:=by
     by_cases hck:Bg g=0
     ·refine⟨(s2 hck).uniq (t2 hck),?_⟩
      rw[(s2 hck).len,CO];exact hN
     ·exact⟨by rw[s1 hck,t1 hck],by rw[s1 hck];simp⟩
   obtain⟨rfl,hll⟩:=hml
   have hwl:=@Aa0 types g
   generalize (if Bg g=0 then O6 types g else[])=w at p1 p2 hwl
   have p5:=AcJ (l:=w) (m:=w) (b1:=b1) (b2:=b2) (by omega) (by omega)
   rw[decide_eq_true rfl]at p5
   have p6:=AcJ (l:=l) (m:=l) (b1:=b3) (b2:=b4) (by omega) (by omega)
   rw[decide_eq_true rfl]at p6
   clear s1 s2 t1 t2
   (conv=>whnf);repeat' (first|((first|refine Aa LH ?_|refine Aa p0 ?_|refine Aa p1 ?_|refine Aa p2 ?_|refine Aa p3 ?_|refine Aa p4 ?_|refine Aa p5 ?_|refine Aa p6 ?_);rintro _ rfl;conv=>whnf)|(refine kA ?_;conv=>whnf)|(refine Br.mk (fun hc=>?_) fun hc=>?_<;>first|exact hc.elim|conv=>whnf)|(refine kB ?_))
   all_goals first|rfl
end AI
end Go.Proofs.YtjjhejbffgaabaaGreatDoor
