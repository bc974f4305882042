/- The laws ShortestLevels and ShortestTurned, about the evaluator. The law ShortestSteps, about the evaluator. Few walks: an answer; distances within their bounds. Sorting in place (CmpFunc[graphdb/api.Value]): insertion, heaps. Sorting in place (CmpFunc[graphdb/api.Value]): the pivot, reversing, breaking patterns. -/
import Derived.Test.YthjeehjphekjmaaGreatDoorWMan
import Derived.Test.YthjeehjphekjmaaGreatDoorWCk8
import Derived.Test.YthjeehjphekjmaaGreatDoorWMaj
import Derived.Test.YthjeehjphekjmaaGreatDoorWMab
set_option linter.unusedVariables false
set_option maxRecDepth 4000
namespace Go.Proofs.YthjeehjphekjmaaGreatDoor
namespace AI
theorem Qp.FC {g:GG} {types:List (List UInt8)} {dir a x:Int} {k:Nat} (ha:EH g a) (h:Qp (CY types dir g.edges) a x k):FC g types dir a x 0 6=if k≤6 then some k else none:=by
 have hc:(0:Int)≤0∧(0:Int)≤6∧(6:Int)≤6∧EH g a:=⟨by omega,by omega,by omega,ha⟩
 by_cases hk:k≤6
 ·rw[if_pos hk]
  exact Rz hc (by omega) (by omega) h.1 fun j _ hj=>h.2 j hj
 ·rw[if_neg hk]
  exact Qh hc fun j _ hj hw=>h.2 j (by omega) hw
theorem AbS {O:List (Int×Int)} {b:Bool} {n:Int} (hl:O.length<2^62):Au (Ac tab) 22 [.sl b (vs Az O),.int .i64 n] (fun v=>∃r:Int,v=.int .i64 r∧((n,r)∈O∨r=-1∧∀p∈O,p.1≠n)):=by
 refine Af rfl rfl ?_
 (conv=>whnf);repeat' (first  |(refine kA ?_;conv=>whnf)|(refine Br.mk (fun hc=>?_) fun hc=>?_<;>first|exact hc.elim|conv=>whnf)|(refine kB ?_))
 refine Ae (fun m env s=>∃i:Nat,m=O.length-i∧(∀ p∈O.take i,p.1≠n)∧env=[(0,.sl b (vs Az O)),(1,.int .i64 n),(5,.int .i64 i)]∧s=⟨[],0⟩) ?_ _ _ _ ⟨0,rfl,by simp,rfl,rfl⟩
 rintro _ _ _ ⟨i,rfl,hx,rfl,rfl⟩
 refine⟨rfl,?_⟩
 by_cases hlt:i<O.length
 ·by_cases he:(O[i]).1=n
  ·have hm:(n,(O[i]).2)∈O:=by rw[← he];exact List.getElem_mem hlt
   (conv=>whnf);repeat' (first  |(refine kA ?_;conv=>whnf)|(refine Br.mk (fun hc=>?_) fun hc=>?_<;>first|exact hc.elim|conv=>whnf)|(refine kB ?_))
   all_goals first
        |(exfalso;omega)
        |exact⟨_,rfl,.inl hm⟩
  ·(conv=>whnf);repeat' (first  |(refine kA ?_;conv=>whnf)|(refine Br.mk (fun hc=>?_) fun hc=>?_<;>first|exact hc.elim|conv=>whnf)|(refine kB ?_))
   all_goals first
        |(exfalso;omega)
        |exact again.mk ⟨_,by omega,i+1,rfl,fun p hp=>by
          rw[List.take_succ_eq_append_getElem hlt,List.mem_append,List.mem_singleton]at hp
          rcases hp with k|k
          ·exact hx p k
          ·subst k;exact he,rfl,rfl⟩
 ·rw[List.take_of_length_le (by omega)]at hx
  (conv=>whnf);repeat' (first  |(refine kA ?_;conv=>whnf)|(refine Br.mk (fun hc=>?_) fun hc=>?_<;>first|exact hc.elim|conv=>whnf)|(refine kB ?_))
  all_goals first
   |(exfalso;omega)
   |exact⟨-1,rfl,.inr ⟨rfl,hx⟩⟩
section
variable {g:GG} {x:Abh} {O:List (Int×Int)} {bq:Bool}
end
theorem distO_some {g:GG} {types:List (List UInt8)} {dir a b lo hi:Int} {k:Nat} (h:FC g types dir a b lo hi=some k):lo≤k∧(k:Int)≤hi∧k≤6∧0≤lo∧EH g a∧b∈Ea (CY types dir g.edges) a k:=by
 unfold FC at h
 split at h
 ·rename_i hc
  obtain⟨k1,k2,k3,k4⟩:=H7.1 h
  exact⟨by omega,by omega,by omega,hc.1,hc.2.2.2,of_decide_eq_true k3⟩
 ·cases h
theorem apVe {es g len:Nat} {nn cl:Bool} {α:Type} {f:α→AV} {l:List α} {x:α} {y:AV} {bytes:Nat} {K:Nat→Bool→Bool→List AV→Prop} (he:f x=y) (hf:∀x,(f x).cells.length=es) (hl:len=l.length) (hr:(l.length+1)*bytes≤2 ^ 46) (h:K (l.length+1) true cl (vs f (l++[x]))):
 LW g g es es len nn cl true (vs f l) [y] bytes K:=by
 subst he
 exact Kz hf hl hr h
def Cnt (l:List (Int×Int)):Prop:=∀p∈l,0≤p.2∧p.2≤1000
theorem Cnt.snoc {l:List (Int×Int)} {p:Int×Int} (h:Cnt l) (hp:0≤p.2∧p.2≤1000):Cnt (l++[p]):=fun q hq=>by
 rcases List.mem_append.1 hq with hq|hq
 ·exact h q hq
 ·simp at hq;subst hq;exact hp
set_option maxHeartbeats 2000000 in
theorem addZ {l:List (Int×Int)} {b:Bool} {id n:Int} (hl:l.length≤1000000) (hc:Cnt l) (h0:0≤n) (h1:n≤1000):
 Au (Ac tab) 40 [.sl b (vs Az l),.int .i64 id,.int .i64 n] (fun v=>∃b L,v=.sl b (vs Az L)∧L.length≤l.length+1∧Cnt L):=by
 refine Af rfl rfl ?_
 (conv=>whnf);repeat' (first  |(refine kA ?_;conv=>whnf)|(refine Br.mk (fun hc=>?_) fun hc=>?_<;>first|exact hc.elim|conv=>whnf)|(refine kB ?_))
 refine Ae (fun m env s=>∃(i go c n1:Nat) (fo put:Bool) (O:List (Int×Int)),m=l.length-i∧i≤l.length∧O.length=i∧n1=O.length∧Cnt O∧env=[(0,.sl b (vs Az l)),(1,.int .i64 id),(2,.int .i64 n),(7,.own 0 go 0 n1),(8,.bool put),(9,.int .i64 i)]∧s=⟨[.arr go 2 fo true (vs Az O)],c⟩) ?_ _ _ _ ⟨0,_,_,_,_,_,[],rfl,by omega,rfl,rfl,fun p hp=>(by cases hp),rfl,rfl⟩
 rintro _ _ _ ⟨i,go,c,n1,fo,put,O,rfl,hi,hO,hn1,hcO,rfl,rfl⟩
 refine⟨rfl,?_⟩
 by_cases hlt:i<l.length
 ·obtain⟨p0,p1⟩:=hc _ (List.getElem_mem hlt)
  have hn:nth (vs Az l) (Int.toNat (Nat.cast i))=some (.agg [.int .i64 (l[i]).1,.int .i64 (l[i]).2]):=nVN (f:=Az) hlt
  by_cases he:(l[i]).1=id
  ·(conv=>whnf);repeat' (first|(apply AU;(· exact hn);conv=>whnf)|(refine apVe (f:=Az) (l:=O) (x:=(((l[i]).1,if(l[i]).2+n<1000 then(l[i]).2+n else 1000):Int×Int)) rfl Bd hn1 (by omega) ?_;conv=>whnf)|(refine kA ?_;conv=>whnf)|(refine Br.mk (fun hc=>?_) fun hc=>?_<;>first|exact hc.elim|conv=>whnf)|(refine kB ?_))
   all_goals first
        |(exfalso;omega)
        |exact absurd he (by assumption)
        |exact again.mk ⟨_,by omega,i+1,_,_,_,_,true,O++[((l[i]).1,if(l[i]).2+n<1000 then(l[i]).2+n else 1000)],rfl,by omega,by simp[hO],by simp,hcO.snoc (by dsimp only;split<;>omega),rfl,rfl⟩
  ·(conv=>whnf);repeat' (first|(apply AU;(· exact hn);conv=>whnf)|(refine apVe (f:=Az) (l:=O) (x:=l[i]) rfl Bd hn1 (by omega) ?_;conv=>whnf)|(refine kA ?_;conv=>whnf)|(refine Br.mk (fun hc=>?_) fun hc=>?_<;>first|exact hc.elim|conv=>whnf)|(refine kB ?_))
   all_goals first
        |(exfalso;omega)
        |exact absurd (by assumption) he
        |exact again.mk ⟨_,by omega,i+1,_,_,_,_,put,O++[l[i]],rfl,by omega,by simp[hO],by simp,hcO.snoc ⟨p0,p1⟩,rfl,rfl⟩
 ·cases put with
  |true=>
   (conv=>whnf);repeat' (first  |(refine kA ?_;conv=>whnf)|(refine Br.mk (fun hc=>?_) fun hc=>?_<;>first|exact hc.elim|conv=>whnf)|(refine kB ?_))
   all_goals first
        |(exfalso;omega)
        |exact⟨_,O,by rw[hn1,uV],by omega,hcO⟩
  |false=>
   (conv=>whnf);repeat' (first|(refine apVe (f:=Az) (l:=O) (x:=((id,n):Int×Int)) rfl Bd hn1 (by omega) ?_;conv=>whnf)|(refine kA ?_;conv=>whnf)|(refine Br.mk (fun hc=>?_) fun hc=>?_<;>first|exact hc.elim|conv=>whnf)|(refine kB ?_))
   all_goals first
        |(exfalso;omega)
        |exact⟨_,O++[(id,n)],by first|rfl|rw[uVS],by simp;omega,hcO.snoc ⟨h0,h1⟩⟩
set_option maxHeartbeats 4000000 in
theorem lightP {g:GG} (hg:g.ok) (hl:g.nodes.length<2^62) (hE:g.edges.length≤8) {x:Abh} (hT:x.types.length<2^63):Au (Ac tab) 15 [g.av,x.av] (fun v=>∃b,v=.bool b):=by
 have pD:=DistR (g:=g) hg hl (by omega) (types:=x.types) (tn:=x.tn) hT (dir:=x.dir) (a:=x.fr) (b:=x.to) (lo:=x.lo) (hi:=x.hi)
 cases hA:FC g x.types x.dir x.fr x.to x.lo x.hi with
 |none=>
  rw[hA]at pD
  unfold UG at pD
  dsimp only at pD
  refine Af rfl rfl ?_
  (conv=>whnf);repeat' (first|(refine Aa pD ?_;rintro _ rfl;conv=>whnf)|(refine kA ?_;conv=>whnf)|(refine Br.mk (fun hc=>?_) fun hc=>?_<;>first|exact hc.elim|conv=>whnf)|(refine kB ?_))
  all_goals first
   |exact⟨_,rfl⟩
   |exact absurd rfl (by assumption)
   |(exfalso;omega)
 |some n=>
  obtain⟨_,_,hn6,_⟩:=distO_some hA
  rw[hA]at pD
  unfold UG at pD
  dsimp only at pD
  refine Af rfl rfl ?_
  (conv=>whnf);repeat' (first|(refine Aa pD ?_;rintro _ rfl;conv=>whnf)|(refine kA ?_;conv=>whnf)|(refine Br.mk (fun hc=>?_) fun hc=>?_<;>first|exact hc.elim|conv=>whnf)|(refine kB ?_))
  all_goals first|exact absurd rfl (by assumption)|(exfalso;omega)|skip
  clear pD
  refine Ae (fun m env s=>∃(k c:Nat) (lb:Bool) (l:List (Int×Int)),m=n-k∧k≤n∧l.length≤8 ^ k∧Cnt l∧env=[(2,.ref 0 0 0 0),(3,.ref 1 1 0 0),(5,.int .i64 n),(7,.sl lb (vs Az l)),(8,.int .i64 k)]∧s=⟨[.arr 0 4 true true [g.av],.arr 1 6 true true [x.av]],c⟩) ?_ _ _ _ ⟨0,_,true,[(x.fr,1)],rfl,by omega,by simp,fun p hp=>(by simp at hp;subst hp;simp),rfl,rfl⟩
  rintro _ _ _ ⟨k,c,lb,l,rfl,hk,hl1,hl2,rfl,rfl⟩
  refine⟨rfl,?_⟩
  have h8:8 ^ (k+1)=8*8 ^ k:=by rw[Nat.pow_succ];omega
  have h85:8 ^ k≤8 ^ 6:=Nat.pow_le_pow_right (by omega) (by omega)
  have h58:(8:Nat) ^ 6=262144:=by decide
  by_cases hkn:k<n
  ·have h84:8 ^ k≤8 ^ 5:=Nat.pow_le_pow_right (by omega) (by omega)
   have h48:(8:Nat) ^ 5=32768:=by decide
   (conv=>whnf);repeat' (first  |(refine kA ?_;conv=>whnf)|(refine Br.mk (fun hc=>?_) fun hc=>?_<;>first|exact hc.elim|conv=>whnf)|(refine kB ?_))
   all_goals first|(exfalso;omega)|skip
   refine Ae (fun m env s=>∃(i c:Nat) (ob:Bool) (O:List (Int×Int)),m=l.length-i∧i≤l.length∧O.length≤i*8∧Cnt O∧env=[(2,.ref 0 0 0 0),(3,.ref 1 1 0 0),(5,.int .i64 n),(7,.sl lb (vs Az l)),(8,.int .i64 k),(9,.sl ob (vs Az O)),(10,.int .i64 i)]∧s=⟨[.arr 0 4 true true [g.av],.arr 1 6 true true [x.av]],c⟩) ?_ _ _ _ ⟨0,_,false,[],rfl,by omega,by simp,fun p hp=>(by cases hp),rfl,rfl⟩
   rintro _ _ _ ⟨i,c,ob,O,rfl,hi,hO1,hO2,rfl,rfl⟩
   refine⟨rfl,?_⟩
   by_cases hil:i<l.length
   ·obtain⟨p0,p1⟩:=hl2 _ (List.getElem_mem hil)
    obtain⟨_,⟨wn,W,rfl,pW,sW⟩,hp⟩:=(U7 (g:=g) hg (by omega) (types:=x.types) (tn:=x.tn) hT (id:=(l[i]).1) (dir:=x.dir)).Oj
    have hWl:W.length≤8:=by
     have h1:=pW.length_eq
     have h2:=@Ii x.types (l[i]).1 x.dir g.edges
     omega
    (conv=>whnf);repeat' (first|(refine Aa hp ?_;rintro _ rfl;conv=>whnf)|(refine kA ?_;conv=>whnf)|(refine Br.mk (fun hc=>?_) fun hc=>?_<;>first|exact hc.elim|conv=>whnf)|(refine kB ?_))
    all_goals first|(exfalso;omega)|skip
    refine Ae (fun m env s=>∃(j c:Nat) (ob:Bool) (O2:List (Int×Int)),m=W.length-j∧j≤W.length∧O2.length≤O.length+j∧Cnt O2∧env=[(2,.ref 0 0 0 0),(3,.ref 1 1 0 0),(5,.int .i64 n),(7,.sl lb (vs Az l)),(8,.int .i64 k),(9,.sl ob (vs Az O2)),(10,.int .i64 i),(11,.sl wn (vs Bc.av W)),(12,.int .i64 j)]∧s=⟨[.arr 0 4 true true [g.av],.arr 1 6 true true [x.av]],c⟩) ?_ _ _ _ ⟨0,_,ob,O,rfl,by omega,by omega,hO2,rfl,rfl⟩
    rintro _ _ _ ⟨j,c,BD,O2,rfl,hj,hj1,hj2,rfl,rfl⟩
    refine⟨rfl,?_⟩
    by_cases hjl:j<W.length
    ·obtain⟨_,⟨b3,L,rfl,hL1,hL2⟩,hq⟩:=(addZ (l:=O2) (b:=BD) (id:=(W[j]).to) (n:=(l[i]).2) (by omega) hj2 p0 p1).Oj
     (conv=>whnf);repeat' (first|(refine Aa hq ?_;rintro _ rfl;conv=>whnf)|(refine kA ?_;conv=>whnf)|(refine Br.mk (fun hc=>?_) fun hc=>?_<;>first|exact hc.elim|conv=>whnf)|(refine kB ?_))
     all_goals first
      |(exfalso;omega)
      |exact again.mk ⟨_,by omega,j+1,_,_,L,rfl,by omega,by omega,hL2,rfl,rfl⟩
    ·(conv=>whnf);repeat' (first  |(refine kA ?_;conv=>whnf)|(refine Br.mk (fun hc=>?_) fun hc=>?_<;>first|exact hc.elim|conv=>whnf)|(refine kB ?_))
     all_goals first
      |(exfalso;omega)
      |exact again.mk ⟨_,by omega,i+1,_,_,O2,rfl,by omega,by omega,hj2,rfl,rfl⟩
   ·(conv=>whnf);repeat' (first  |(refine kA ?_;conv=>whnf)|(refine Br.mk (fun hc=>?_) fun hc=>?_<;>first|exact hc.elim|conv=>whnf)|(refine kB ?_))
    all_goals first
     |(exfalso;omega)
     |exact again.mk ⟨_,by omega,k+1,_,_,O,rfl,by omega,by rw[h8];omega,hO2,rfl,rfl⟩
  ·obtain⟨_,⟨r,rfl,_⟩,hz⟩:=(AbS (O:=l) (b:=lb) (n:=x.to) (by omega)).Oj
   (conv=>whnf);repeat' (first|(refine Aa hz ?_;rintro _ rfl;conv=>whnf)|(refine kA ?_;conv=>whnf)|(refine Br.mk (fun hc=>?_) fun hc=>?_<;>first|exact hc.elim|conv=>whnf)|(refine kB ?_))
   all_goals first
        |exact⟨_,rfl⟩
        |(exfalso;omega)
section
open Go.Sort
set_option maxHeartbeats 1000000 in
theorem pvins {Ap:Obj} {g c len:Nat} {nn cl:Bool} {d:Array Wk} {a b:Nat} (hl:d.size=len) (hb:b≤len) (hs:len<2^61) (ha:a≤len):
 AQ (Ac tab) 114 [.own 1 g 0 len,.int .i64 a,.int .i64 b,.fn 46 []] ⟨[Ap,.arr g 5 nn cl (vs Wk.av d.toList)],c⟩ fun out s'=>∃c',out=.ok (.CO [])∧s'=⟨[Ap,.arr g 5 nn cl (vs Wk.av (insertionSort AfW d a b).toList)],c'⟩:=by
 refine Ar rfl rfl ?_
 (conv=>whnf);repeat' (first  |(refine kA ?_;conv=>whnf)|(refine Br.mk (fun hc=>?_) fun hc=>?_<;>first|exact hc.elim|conv=>whnf)|(refine kB ?_))
 refine Ae (fun m env s=>∃(i c:Nat) (D:Array Wk),m=b-i∧insOuter AfW a b i D=insertionSort AfW d a b∧D.size=len∧env=[(0,.own 1 g 0 len),(1,.int .i64 a),(2,.int .i64 b),(3,.fn 46 []),(8,.int .i64 i)]∧s=⟨[Ap,.arr g 5 nn cl (vs Wk.av D.toList)],c⟩) ?_ _ _ _ ⟨a+1,c,d,rfl,rfl,hl,rfl,rfl⟩
 rintro _ _ _ ⟨i,c,D,rfl,hD,hDl,rfl,rfl⟩
 refine⟨rfl,?_⟩
 (conv=>whnf);repeat' (first  |(refine kA ?_;conv=>whnf)|(refine Br.mk (fun hc=>?_) fun hc=>?_<;>first|exact hc.elim|conv=>whnf)|(refine kB ?_))
 ·rw[Wy (by omega)]at hD
  refine Ae (fun m env s=>∃(j c:Nat) (z:Int) (E:Array Wk),m=j∧z=j∧j≤i∧insInner AfW a j E=insInner AfW a i D∧E.size=len∧env=[(0,.own 1 g 0 len),(1,.int .i64 a),(2,.int .i64 b),(3,.fn 46 []),(8,.int .i64 i),(9,.int .i64 z)]∧s=⟨[Ap,.arr g 5 nn cl (vs Wk.av E.toList)],c⟩) ?_ _ _ _ ⟨i,_,_,D,rfl,rfl,by omega,rfl,hDl,rfl,rfl⟩
  rintro j _ _ ⟨_,c,z,E,rfl,hz,hj,hE,hEl,rfl,rfl⟩
  refine⟨rfl,?_⟩
  cases j with
  |zero=>
   (conv=>whnf);repeat' (first  |(refine kA ?_;conv=>whnf)|(refine Br.mk (fun hc=>?_) fun hc=>?_<;>first|exact hc.elim|conv=>whnf)|(refine kB ?_))
   rw[← hE]at hD
   exact again.mk ⟨_,by omega,i+1,_,E,rfl,hD,hEl,rfl,rfl⟩
  |succ j=>
   (conv=>whnf);repeat' (first|((with_reducible show AY _ _ _);refine CG (j+1) ?_;conv=>whnf)|((with_reducible show AY _ _ _);refine CG (j) ?_;conv=>whnf)|(refine Aa orderWk ?_;rintro _ rfl;conv=>whnf)|(refine pcaseWk (fun hc=>?_) (fun hc=>?_)<;>conv=>whnf)|((with_reducible show eqK _ _);refine EP cellsWk (j+1) ?_;conv=>whnf)|((with_reducible show eqK _ _);refine EP cellsWk (j) ?_;conv=>whnf)|(refine kA ?_;conv=>whnf)|(refine Br.mk (fun hc=>?_) fun hc=>?_<;>first|exact hc.elim|conv=>whnf)|(refine kB ?_))
   ·rw[TQ (by omega) hc]at hE
    exact again.mk ⟨_,by omega,j,_,_,swp E (j+1) j,rfl,by omega,by omega,hE,by simpa using hEl,rfl,rfl⟩
   ·rw[Lu (fun _=>hc)]at hE
    rw[← hE]at hD
    exact again.mk ⟨_,by omega,i+1,_,E,rfl,hD,hEl,rfl,rfl⟩
   ·rw[Lu (fun h=>absurd h (by omega))]at hE
    rw[← hE]at hD
    exact again.mk ⟨_,by omega,i+1,_,E,rfl,hD,hEl,rfl,rfl⟩
 ·rw[WA (by omega)]at hD
  exact⟨_,rfl,by rw[hD]⟩
set_option maxHeartbeats 1000000 in
theorem pvsift {Ap:Obj} {g c len:Nat} {nn cl:Bool} {d:Array Wk} {lo hi first:Nat} (hl:d.size=len) (hb:first+hi≤len) (hs:len<2^61) (hlo:lo≤len):
 AQ (Ac tab) 158 [.own 1 g 0 len,.int .i64 lo,.int .i64 hi,.int .i64 first,.fn 46 []] ⟨[Ap,.arr g 5 nn cl (vs Wk.av d.toList)],c⟩ fun out s'=>∃c',out=.ok (.CO [])∧s'=⟨[Ap,.arr g 5 nn cl (vs Wk.av (siftDown AfW hi first lo d).toList)],c'⟩:=by
 refine Ar rfl rfl ?_
 (conv=>whnf);repeat' (first  |(refine kA ?_;conv=>whnf)|(refine Br.mk (fun hc=>?_) fun hc=>?_<;>first|exact hc.elim|conv=>whnf)|(refine kB ?_))
 refine Ae (fun m env s=>∃(root c:Nat) (z:Int) (D:Array Wk),m=hi-root∧z=root∧root≤len∧siftDown AfW hi first root D=siftDown AfW hi first lo d∧D.size=len∧env=[(0,.own 1 g 0 len),(2,.int .i64 hi),(3,.int .i64 first),(4,.fn 46 []),(10,.int .i64 z)]∧s=⟨[Ap,.arr g 5 nn cl (vs Wk.av D.toList)],c⟩) ?_ _ _ _ ⟨lo,c,_,d,rfl,rfl,hlo,rfl,hl,rfl,rfl⟩
 rintro _ _ _ ⟨root,c,z,D,rfl,hz,hr,hD,hDl,rfl,rfl⟩
 refine⟨rfl,?_⟩
 (conv=>whnf);repeat' (first|((with_reducible show AY _ _ _);refine CG (first+root) ?_;conv=>whnf)|((with_reducible show AY _ _ _);refine CG (first+(2*root+1)) ?_;conv=>whnf)|((with_reducible show AY _ _ _);refine CG (first+(2*root+1)+1) ?_;conv=>whnf)|(refine Aa orderWk ?_;rintro _ rfl;conv=>whnf)|(refine pcaseWk (fun hc=>?_) (fun hc=>?_)<;>conv=>whnf)|((with_reducible show eqK _ _);refine EP cellsWk (first+root) ?_;conv=>whnf)|((with_reducible show eqK _ _);refine EP cellsWk (first+(2*root+1)) ?_;conv=>whnf)|((with_reducible show eqK _ _);refine EP cellsWk (first+(2*root+1)+1) ?_;conv=>whnf)|(refine kA ?_;conv=>whnf)|(refine Br.mk (fun hc=>?_) fun hc=>?_<;>first|exact hc.elim|conv=>whnf)|(refine kB ?_))
 ·rw[OT (by omega)]at hD
  exact⟨_,rfl,by rw[hD]⟩
 all_goals first
  |(rw [Yh (by omega) (by assumption) hc]at hD
    exact again.mk ⟨_,by omega,2*root+2,_,_,swp D (first+root) (first+(2*root+2)),rfl,by omega,by omega,hD,by simpa using hDl,rfl,rfl⟩)
  |(rw [WB (by omega) (by assumption) hc]at hD
    exact⟨_,rfl,by rw[hD]⟩)
  |(rw [RS (by omega) (fun _=>by assumption) hc]at hD
    exact again.mk ⟨_,by omega,2*root+1,_,_,swp D (first+root) (first+(2*root+1)),rfl,by omega,by omega,hD,by simpa using hDl,rfl,rfl⟩)
  |(rw [Ox (by omega) (fun _=>by assumption) hc]at hD
    exact⟨_,rfl,by rw[hD]⟩)
  |(rw [RS (by omega) (fun h=>absurd h (by omega)) hc]at hD
    exact again.mk ⟨_,by omega,2*root+1,_,_,swp D (first+root) (first+(2*root+1)),rfl,by omega,by omega,hD,by simpa using hDl,rfl,rfl⟩)
  |(rw [Ox (by omega) (fun h=>absurd h (by omega)) hc]at hD
    exact⟨_,rfl,by rw[hD]⟩)
set_option maxHeartbeats 1000000 in
theorem pvheapP {Ap:Obj} {g c len:Nat} {nn cl:Bool} {d:Array Wk} {a n:Nat} {z:Int} {Q:Ak→Env→Ag→Prop} (hl:d.size=len) (hb:a+n≤len) (hs:len<2^61) (hz:z=(n:Int)-1)
 (hQ:∀c' e,Q (.exit 2) e ⟨[Ap,.arr g 5 nn cl (vs Wk.av (heapPop AfW a n d).toList)],c'⟩):
 Run (Ac tab) (.loop l115_1_h l115_1_b) [(0,.own 1 g 0 len),(3,.fn 46 []),(8,.int .i64 a),(9,.int .i64 0),(12,.int .i64 z)] ⟨[Ap,.arr g 5 nn cl (vs Wk.av d.toList)],c⟩ Q:=by
 refine Ae (fun m env s=>∃(k c:Nat) (z:Int) (E:Array Wk),m=k∧z=(k:Int)-1∧a+k≤len∧heapPop AfW a k E=heapPop AfW a n d∧E.size=len∧env=[(0,.own 1 g 0 len),(3,.fn 46 []),(8,.int .i64 a),(9,.int .i64 0),(12,.int .i64 z)]∧s=⟨[Ap,.arr g 5 nn cl (vs Wk.av E.toList)],c⟩) ?_ _ _ _ ⟨n,c,_,d,rfl,hz,by omega,rfl,hl,rfl,rfl⟩
 clear hz
 rintro k _ _ ⟨_,c,z,E,rfl,hz,hk,hE,hEl,rfl,rfl⟩
 refine⟨rfl,?_⟩
 cases k with
 |succ k=>
  obtain rfl:z=(k:Nat):=by omega
  (conv=>whnf);repeat' (first|((with_reducible show AY _ _ _);refine CG (a) ?_;conv=>whnf)|((with_reducible show AY _ _ _);refine CG (a+k) ?_;conv=>whnf)|((with_reducible show eqK _ _);refine EP cellsWk (a) ?_;conv=>whnf)|((with_reducible show eqK _ _);refine EP cellsWk (a+k) ?_;conv=>whnf)|(refine kA ?_;conv=>whnf)|(refine Br.mk (fun hc=>?_) fun hc=>?_<;>first|exact hc.elim|conv=>whnf)|(refine kB ?_))
  refine(pvsift (d:=swp E a (a+k)) (lo:=0) (by simpa using hEl) (by omega) hs (by omega)).mono ?_
  rintro _ _ ⟨c',rfl,rfl⟩
  (conv=>whnf);repeat' (first  |(refine kA ?_;conv=>whnf)|(refine Br.mk (fun hc=>?_) fun hc=>?_<;>first|exact hc.elim|conv=>whnf)|(refine kB ?_))
  rw[heapPop]at hE
  exact again.mk ⟨_,by omega,k,_,(k:Int)-1,_,rfl,by omega,by omega,hE,by simpa using hEl,rfl,rfl⟩
 |zero=>
  rw[← hE]at hQ
  (conv=>whnf);repeat' (first  |(refine kA ?_;conv=>whnf)|(refine Br.mk (fun hc=>?_) fun hc=>?_<;>first|exact hc.elim|conv=>whnf)|(refine kB ?_))
  exact hQ _ _
theorem pvheap {Ap:Obj} {g c len:Nat} {nn cl:Bool} {d:Array Wk} {a b:Nat} (hl:d.size=len) (hb:b≤len) (hs:len<2^61) (hab:a<b):
 AQ (Ac tab) 115 [.own 1 g 0 len,.int .i64 a,.int .i64 b,.fn 46 []] ⟨[Ap,.arr g 5 nn cl (vs Wk.av d.toList)],c⟩ fun out s'=>∃c',out=.ok (.CO [])∧s'=⟨[Ap,.arr g 5 nn cl (vs Wk.av (heapSort AfW d a b).toList)],c'⟩:=by
 refine Ar rfl rfl ?_
 (conv=>whnf);repeat' (first|(refine Jr (b-a-1) 2 (by omega) (by omega) ?_;conv=>whnf)|(refine kA ?_;conv=>whnf)|(refine Br.mk (fun hc=>?_) fun hc=>?_<;>first|exact hc.elim|conv=>whnf)|(refine kB ?_))
 refine Ae (fun m env s=>∃(k c:Nat) (z:Int) (D:Array Wk),m=k∧z=k-1∧k≤len∧heapBuild AfW (b-a) a k D=heapBuild AfW (b-a) a ((b-a-1) / 2+1) d∧D.size=len∧env=[(0,.own 1 g 0 len),(3,.fn 46 []),(8,.int .i64 a),(9,.int .i64 0),(10,.int .i64 (b-a)),(11,.int .i64 z)]∧s=⟨[Ap,.arr g 5 nn cl (vs Wk.av D.toList)],c⟩) ?_ _ _ _ ⟨(b-a-1) / 2+1,c,_,d,rfl,by omega,by omega,rfl,hl,rfl,rfl⟩
 rintro k _ _ ⟨_,c,z,D,rfl,hz,hk,hD,hDl,rfl,rfl⟩
 refine⟨rfl,?_⟩
 cases k with
 |succ k=>
  obtain rfl:z=(k:Nat):=by omega
  (conv=>whnf);repeat' (first  |(refine kA ?_;conv=>whnf)|(refine Br.mk (fun hc=>?_) fun hc=>?_<;>first|exact hc.elim|conv=>whnf)|(refine kB ?_))
  rw[show ((b:Int)-a)=((b-a:Nat):Int) by omega]
  refine(pvsift hDl (by omega) hs (by omega)).mono ?_
  rintro _ _ ⟨c',rfl,rfl⟩
  (conv=>whnf);repeat' (first  |(refine kA ?_;conv=>whnf)|(refine Br.mk (fun hc=>?_) fun hc=>?_<;>first|exact hc.elim|conv=>whnf)|(refine kB ?_))
  rw[heapBuild]at hD
  exact again.mk ⟨_,by omega,k,_,(k:Int)-1,_,rfl,by omega,by omega,hD,by simpa using hDl,rfl,rfl⟩
 |zero=>
  have hD:D=_:=hD
  (conv=>whnf);repeat' (first  |(refine kA ?_;conv=>whnf)|(refine Br.mk (fun hc=>?_) fun hc=>?_<;>first|exact hc.elim|conv=>whnf)|(refine kB ?_))
  refine pvheapP hDl (n:=b-a) (by omega) hs (by omega) (fun c' e=>?_)
  (conv=>whnf);repeat' (first  |(refine kA ?_;conv=>whnf)|(refine Br.mk (fun hc=>?_) fun hc=>?_<;>first|exact hc.elim|conv=>whnf)|(refine kB ?_))
  exact⟨_,rfl,by rw[hD];rfl⟩
end
section
open Go.Sort
theorem pvord {Ap:Obj} {g g2 c len:Nat} {nn cl:Bool} {d:Array Wk} {a b n:Nat} (hl:d.size=len) (ha:a<len) (hb:b<len) (hs:len<2^61) (hn:n<100):
 AQ (Ac tab) 176 [.own 1 g 0 len,.int .i64 a,.int .i64 b,.ref 2 g2 0 0,.fn 46 []] ⟨[Ap,.arr g 5 nn cl (vs Wk.av d.toList),.arr g2 1 true true [.int .i64 n]],c⟩ fun out s'=>∃(c' x y n':Nat),out=.ok (.CO [.int .i64 x,.int .i64 y])∧s'=⟨[Ap,.arr g 5 nn cl (vs Wk.av d.toList),.arr g2 1 true true [.int .i64 n']],c'⟩∧n'≤n+1∧(x=a∧y=b∨x=b∧y=a):=by
 refine Ar rfl rfl ?_
 (conv=>whnf);repeat' (first|((with_reducible show AY _ _ _);refine CG (a) ?_;conv=>whnf)|((with_reducible show AY _ _ _);refine CG (b) ?_;conv=>whnf)|(refine Aa orderWk ?_;rintro _ rfl;conv=>whnf)|(refine pcaseWk (fun hc=>?_) (fun hc=>?_)<;>conv=>whnf)|(refine kA ?_;conv=>whnf)|(refine Br.mk (fun hc=>?_) fun hc=>?_<;>first|exact hc.elim|conv=>whnf)|(refine kB ?_))
 ·exact⟨_,b,a,n+1,rfl,rfl,by omega,Or.inr ⟨rfl,rfl⟩⟩
 ·exact⟨_,a,b,n,rfl,rfl,by omega,Or.inl ⟨rfl,rfl⟩⟩
theorem pvmed {Ap:Obj} {g g2 c len:Nat} {nn cl:Bool} {d:Array Wk} {a b e n:Nat} (hl:d.size=len) (ha:a<len) (hb:b<len) (he:e<len) (hs:len<2^61) (hn:n<90):
 AQ (Ac tab) 160 [.own 1 g 0 len,.int .i64 a,.int .i64 b,.int .i64 e,.ref 2 g2 0 0,.fn 46 []] ⟨[Ap,.arr g 5 nn cl (vs Wk.av d.toList),.arr g2 1 true true [.int .i64 n]],c⟩ fun out s'=>∃(c' m n':Nat),out=.ok (.int .i64 m)∧s'=⟨[Ap,.arr g 5 nn cl (vs Wk.av d.toList),.arr g2 1 true true [.int .i64 n']],c'⟩∧n'≤n+3∧(m=a∨m=b∨m=e):=by
 refine Ar rfl rfl ?_
 (conv=>whnf);repeat' (first  |(refine kA ?_;conv=>whnf)|(refine Br.mk (fun hc=>?_) fun hc=>?_<;>first|exact hc.elim|conv=>whnf)|(refine kB ?_))
 refine(pvord hl ha hb hs (by omega)).mono ?_
 rintro _ _ ⟨c1,x1,y1,n1,rfl,rfl,h1,e1⟩
 conv=>whnf
 apply Ai rfl
 (conv=>whnf);repeat' (first  |(refine kA ?_;conv=>whnf)|(refine Br.mk (fun hc=>?_) fun hc=>?_<;>first|exact hc.elim|conv=>whnf)|(refine kB ?_))
 refine(pvord (a:=y1) (b:=e) hl (by omega) he hs (by omega)).mono ?_
 rintro _ _ ⟨c2,x2,y2,n2,rfl,rfl,h2,e2⟩
 conv=>whnf
 apply Ai rfl
 (conv=>whnf);repeat' (first  |(refine kA ?_;conv=>whnf)|(refine Br.mk (fun hc=>?_) fun hc=>?_<;>first|exact hc.elim|conv=>whnf)|(refine kB ?_))
 refine(pvord (a:=x1) (b:=x2) hl (by omega) (by omega) hs (by omega)).mono ?_
 rintro _ _ ⟨c3,x3,y3,n3,rfl,rfl,h3,e3⟩
 conv=>whnf
 apply Ai rfl
 (conv=>whnf);repeat' (first  |(refine kA ?_;conv=>whnf)|(refine Br.mk (fun hc=>?_) fun hc=>?_<;>first|exact hc.elim|conv=>whnf)|(refine kB ?_))
 exact⟨_,y3,n3,rfl,rfl,by omega,by omega⟩
theorem pvadj {Ap:Obj} {g g2 c len:Nat} {nn cl:Bool} {d:Array Wk} {a n:Nat} (hl:d.size=len) (ha:a+1<len) (h0:0<a) (hs:len<2^61) (hn:n<90):
 AQ (Ac tab) 159 [.own 1 g 0 len,.int .i64 a,.ref 2 g2 0 0,.fn 46 []] ⟨[Ap,.arr g 5 nn cl (vs Wk.av d.toList),.arr g2 1 true true [.int .i64 n]],c⟩ fun out s'=>∃(c' m n':Nat),out=.ok (.int .i64 m)∧s'=⟨[Ap,.arr g 5 nn cl (vs Wk.av d.toList),.arr g2 1 true true [.int .i64 n']],c'⟩∧n'≤n+3∧a≤m+1∧m≤a+1:=by
 refine Ar rfl rfl ?_
 (conv=>whnf);repeat' (first  |(refine kA ?_;conv=>whnf)|(refine Br.mk (fun hc=>?_) fun hc=>?_<;>first|exact hc.elim|conv=>whnf)|(refine kB ?_))
 rw[show ((a:Int)-1)=((a-1:Nat):Int) by omega]
 refine(pvmed (a:=a-1) (b:=a) (e:=a+1) hl (by omega) (by omega) ha hs hn).mono ?_
 rintro _ _ ⟨c',m,n',rfl,rfl,h1,h2⟩
 conv=>whnf
 apply Ai rfl
 (conv=>whnf);repeat' (first  |(refine kA ?_;conv=>whnf)|(refine Br.mk (fun hc=>?_) fun hc=>?_<;>first|exact hc.elim|conv=>whnf)|(refine kB ?_))
 exact⟨_,m,n',rfl,rfl,h1,by omega,by omega⟩
set_option maxHeartbeats 1000000 in
theorem pvpiv {Ap:Obj} {g c len:Nat} {nn cl:Bool} {d:Array Wk} {a b:Nat} (hl:d.size=len) (hb:b≤len) (hab:a+12<b) (hs:len<2^61):
 AQ (Ac tab) 117 [.own 1 g 0 len,.int .i64 a,.int .i64 b,.fn 46 []] ⟨[Ap,.arr g 5 nn cl (vs Wk.av d.toList)],c⟩ fun out s'=>∃(c' p:Nat) (h:Int) (ob:Obj),out=.ok (.CO [.int .i64 p,.int .i64 h])∧s'=⟨[Ap,.arr g 5 nn cl (vs Wk.av d.toList),ob],c'⟩∧a≤p∧p<b:=by
 refine Ar rfl rfl ?_
 have hq:(b-a) / 4*4≤b-a:=Nat.div_mul_le_self _ _
 have hq2:3≤(b-a) / 4:=by omega
 generalize hL:(b-a) / 4=L at hq hq2
 (conv=>whnf);repeat' (first|(refine Jr (b-a) 4 (by omega) (by omega) ?_;rw[hL];conv=>whnf)|(refine kA ?_;conv=>whnf)|(refine Br.mk (fun hc=>?_) fun hc=>?_<;>first|exact hc.elim|conv=>whnf)|(refine kB ?_))
 ·refine(pvadj (g2:=c) (n:=0) (a:=a+L*1) hl (by omega) (by omega) hs (by omega)).mono ?_
  rintro _ _ ⟨c1,i,n1,rfl,rfl,h1,i1,i2⟩
  conv=>whnf
  apply Ai rfl
  (conv=>whnf);repeat' (first  |(refine kA ?_;conv=>whnf)|(refine Br.mk (fun hc=>?_) fun hc=>?_<;>first|exact hc.elim|conv=>whnf)|(refine kB ?_))
  refine(pvadj (g2:=c) (a:=a+L*2) hl (by omega) (by omega) hs (by omega)).mono ?_
  rintro _ _ ⟨c2,j,n2,rfl,rfl,h2,j1,j2⟩
  conv=>whnf
  apply Ai rfl
  (conv=>whnf);repeat' (first  |(refine kA ?_;conv=>whnf)|(refine Br.mk (fun hc=>?_) fun hc=>?_<;>first|exact hc.elim|conv=>whnf)|(refine kB ?_))
  refine(pvadj (g2:=c) (a:=a+L*3) hl (by omega) (by omega) hs (by omega)).mono ?_
  rintro _ _ ⟨c3,k,n3,rfl,rfl,h3,k1,k2⟩
  conv=>whnf
  apply Ai rfl
  (conv=>whnf);repeat' (first  |(refine kA ?_;conv=>whnf)|(refine Br.mk (fun hc=>?_) fun hc=>?_<;>first|exact hc.elim|conv=>whnf)|(refine kB ?_))
  refine(pvmed (g2:=c) (a:=i) (b:=j) (e:=k) hl (by omega) (by omega) (by omega) hs (by omega)).mono ?_
  rintro _ _ ⟨c4,m,n4,rfl,rfl,h4,h5⟩
  conv=>whnf
  apply Ai rfl
  (conv=>whnf);repeat' (first  |(refine kA ?_;conv=>whnf)|(refine Br.mk (fun hc=>?_) fun hc=>?_<;>first|exact hc.elim|conv=>whnf)|(refine kB ?_))
  all_goals exact⟨_,m,_,_,rfl,rfl,by omega,by omega⟩
 ·refine(pvmed (g2:=c) (n:=0) (a:=a+L*1) (b:=a+L*2) (e:=a+L*3) hl (by omega) (by omega) (by omega) hs (by omega)).mono ?_
  rintro _ _ ⟨c4,m,n4,rfl,rfl,h4,h5⟩
  conv=>whnf
  apply Ai rfl
  (conv=>whnf);repeat' (first  |(refine kA ?_;conv=>whnf)|(refine Br.mk (fun hc=>?_) fun hc=>?_<;>first|exact hc.elim|conv=>whnf)|(refine kB ?_))
  all_goals exact⟨_,m,_,_,rfl,rfl,by omega,by omega⟩
theorem pvrev {Ap:Obj} {g c len:Nat} {nn cl:Bool} {d:Array Wk} {a b:Nat} (hl:d.size=len) (hb:b≤len) (hab:a<b) (hs:len<2^61):
 AQ (Ac tab) 118 [.own 1 g 0 len,.int .i64 a,.int .i64 b,.fn 46 []] ⟨[Ap,.arr g 5 nn cl (vs Wk.av d.toList)],c⟩ fun out s'=>∃c' D,out=.ok (.CO [])∧s'=⟨[Ap,.arr g 5 nn cl (vs Wk.av D.toList)],c'⟩∧PermIn a b d D:=by
 refine Ar rfl rfl ?_
 (conv=>whnf);repeat' (first  |(refine kA ?_;conv=>whnf)|(refine Br.mk (fun hc=>?_) fun hc=>?_<;>first|exact hc.elim|conv=>whnf)|(refine kB ?_))
 refine Ae (fun m env s=>∃(i c:Nat) (z:Int) (D:Array Wk),m=b-i∧a≤i∧i≤b∧z=(a:Int)+b-1-i∧PermIn a b d D∧env=[(0,.own 1 g 0 len),(8,.int .i64 i),(9,.int .i64 z)]∧s=⟨[Ap,.arr g 5 nn cl (vs Wk.av D.toList)],c⟩) ?_ _ _ _ ⟨a,c,_,d,rfl,by omega,by omega,by omega,permIn_refl _ _ _,rfl,rfl⟩
 rintro _ _ _ ⟨i,c,z,D,rfl,hi,hib,hz,hD,rfl,rfl⟩
 refine⟨rfl,?_⟩
 have hDl:D.size=len:=by rw[hD.1,hl]
 (conv=>whnf);repeat' (first|((with_reducible show AY _ _ _);refine CG (i) ?_;conv=>whnf)|((with_reducible show AY _ _ _);refine CG (a+b-1-i) ?_;conv=>whnf)|((with_reducible show eqK _ _);refine EP cellsWk (i) ?_;conv=>whnf)|((with_reducible show eqK _ _);refine EP cellsWk (a+b-1-i) ?_;conv=>whnf)|(refine kA ?_;conv=>whnf)|(refine Br.mk (fun hc=>?_) fun hc=>?_<;>first|exact hc.elim|conv=>whnf)|(refine kB ?_))
 ·exact again.mk ⟨_,by omega,i+1,_,z-1,swp D i (a+b-1-i),rfl,by omega,by omega,by omega,permIn_trans _ _ _ _ _ hD (swp_permIn _ _ _ _ _ (by omega) (by omega) (by omega) (by omega) (by omega)),rfl,rfl⟩
 ·exact⟨_,D,rfl,rfl,hD⟩
theorem pvnext {Ap:Obj} {obX:Obj} {g2 c:Nat} {r:Int}:
 AQ (Ac tab) 155 [.ref 2 g2 0 0] ⟨[Ap,  obX,.arr g2 1 true true [.int .u64 r]],c⟩ fun out s'=>∃c' r',out=.ok (.int .u64 r')∧s'=⟨[Ap,  obX,.arr g2 1 true true [.int .u64 r']],c'⟩:=by
 refine Ar rfl rfl ?_
 (conv=>whnf);repeat' (first|(apply Bh rfl;conv=>whnf)|(apply Dz rfl;conv=>whnf)|(refine kA ?_;conv=>whnf)|(refine Br.mk (fun hc=>?_) fun hc=>?_<;>first|exact hc.elim|conv=>whnf)|(refine kB ?_))
 exact⟨_,_,rfl,rfl⟩
theorem andNv {r:Int} {M:Nat} (h0:0<M) (h:M<2^63):∃n:Nat,IntKind.u64.wrap ((BitVec.ofInt IntKind.u64.bits r &&& BitVec.ofInt IntKind.u64.bits ((M-1:Nat):Int)).toNat:Int)=n∧n<M:=by
 have e:(BitVec.ofInt IntKind.u64.bits ((M-1:Nat):Int)).toNat=M-1:=by
  rw[BitVec.toNat_ofInt]
  show Int.toNat (((M-1:Nat):Int) % ((2 ^ 64:Nat):Int))=M-1
  omega
 refine⟨(BitVec.ofInt IntKind.u64.bits r &&& BitVec.ofInt IntKind.u64.bits ((M-1:Nat):Int)).toNat,Vd rfl (by omega) ?_,?_⟩
 ·rw[BitVec.toNat_and,e]
  have:=@Nat.and_le_right (BitVec.ofInt IntKind.u64.bits r).toNat (M-1)
  show _<(2:Int) ^ 64
  omega
 ·rw[BitVec.toNat_and,e]
  have:=@Nat.and_le_right (BitVec.ofInt IntKind.u64.bits r).toNat (M-1)
  omega
set_option maxHeartbeats 1000000 in
theorem pvbrk {Ap:Obj} {g c len:Nat} {nn cl:Bool} {d:Array Wk} {a b:Nat} (hl:d.size=len) (hb:b≤len) (hab:a+12<b) (hs:len<2^61):
 AQ (Ac tab) 116 [.own 1 g 0 len,.int .i64 a,.int .i64 b,.fn 46 []] ⟨[Ap,.arr g 5 nn cl (vs Wk.av d.toList)],c⟩ fun out s'=>∃c' D ob,out=.ok (.CO [])∧s'=⟨[Ap,.arr g 5 nn cl (vs Wk.av D.toList),ob],c'⟩∧PermIn a b d D:=by
 refine Ar rfl rfl ?_
 have hq:(b-a) / 4*4≤b-a:=Nat.div_mul_le_self _ _
 have hq2:3≤(b-a) / 4:=by omega
 generalize hL:(b-a) / 4=L at hq hq2
 (conv=>whnf);repeat' (first|(refine Jr (b-a) 4 (by omega) (by omega) ?_;rw[hL];conv=>whnf)|(refine wrapN (b-a) rfl (by omega) (by show _<2^64;omega) ?_;conv=>whnf)|(refine kA ?_;conv=>whnf)|(refine Br.mk (fun hc=>?_) fun hc=>?_<;>first|exact hc.elim|conv=>whnf)|(refine kB ?_))
 rw[show ((b:Int)-a)=((b-a:Nat):Int) by omega]
 refine Aa (QM (n:=b-a) (by omega) (by omega)) ?_
 rintro _ ⟨M,rfl,hM1,hM2⟩
 (conv=>whnf);repeat' (first|(refine Jr (b-a) 4 (by omega) (by omega) ?_;rw[hL];conv=>whnf)|(refine kA ?_;conv=>whnf)|(refine Br.mk (fun hc=>?_) fun hc=>?_<;>first|exact hc.elim|conv=>whnf)|(refine kB ?_))
 refine Ae (fun m env s=>∃(k cc:Nat) (z r:Int) (D:Array Wk),m=3-k∧k≤3∧z=(a:Int)+L*2-1+k∧PermIn a b d D∧env=[(0,.own 1 g 0 len),(1,.int .i64 a),(8,.int .i64 (b-a:Nat)),(9,.ref 2 c 0 0),(10,.int .u64 M),(11,.int .i64 z)]∧s=⟨[Ap,.arr g 5 nn cl (vs Wk.av D.toList),.arr c 1 true true [.int .u64 r]],cc⟩) ?_ _ _ _ ⟨0,_,_,((b-a:Nat):Int),d,rfl,by omega,by omega,permIn_refl _ _ _,rfl,rfl⟩
 rintro _ _ _ ⟨k,c1,z,r,D,rfl,hk,hz,hD,rfl,rfl⟩
 refine⟨rfl,?_⟩
 have hDl:D.size=len:=by rw[hD.1,hl]
 (conv=>whnf);repeat' (first|(refine Jr (b-a) 4 (by omega) (by omega) ?_;rw[hL];conv=>whnf)|(refine kA ?_;conv=>whnf)|(refine Br.mk (fun hc=>?_) fun hc=>?_<;>first|exact hc.elim|conv=>whnf)|(refine kB ?_))
 ·refine(pvnext).mono ?_
  rintro _ _ ⟨c2,r2,rfl,rfl⟩
  obtain⟨o,ho1,ho2⟩:=andNv (r:=r2) (M:=M) (by omega) (by omega)
  conv=>whnf
  apply Ai rfl
  (conv=>whnf);repeat' (first|(refine wrapN (M-1) rfl (by omega) (by show _<2^64;omega) ?_;conv=>whnf)|(apply Bh ho1;conv=>whnf)|(refine Dz (wrap_i64 (by omega) (by omega)) ?_;conv=>whnf)|((with_reducible show AY _ _ _);refine CG (a+(o-(b-a))) ?_;conv=>whnf)|((with_reducible show AY _ _ _);refine CG (a+o) ?_;conv=>whnf)|((with_reducible show AY _ _ _);refine CG (a+L*2-1+k) ?_;conv=>whnf)|((with_reducible show eqK _ _);refine EP cellsWk (a+(o-(b-a))) ?_;conv=>whnf)|((with_reducible show eqK _ _);refine EP cellsWk (a+o) ?_;conv=>whnf)|((with_reducible show eqK _ _);refine EP cellsWk (a+L*2-1+k) ?_;conv=>whnf)|(refine kA ?_;conv=>whnf)|(refine Br.mk (fun hc=>?_) fun hc=>?_<;>first|exact hc.elim|conv=>whnf)|(refine kB ?_))
  ·exact again.mk ⟨_,by omega,k+1,_,_,_,swp D (a+L*2-1+k) (a+(o-(b-a))),rfl,by omega,by omega,permIn_trans _ _ _ _ _ hD (swp_permIn _ _ _ _ _ (by omega) (by omega) (by omega) (by omega) (by omega)),rfl,rfl⟩
  ·exact again.mk ⟨_,by omega,k+1,_,_,_,swp D (a+L*2-1+k) (a+o),rfl,by omega,by omega,permIn_trans _ _ _ _ _ hD (swp_permIn _ _ _ _ _ (by omega) (by omega) (by omega) (by omega) (by omega)),rfl,rfl⟩
 ·exact⟨_,D,_,rfl,rfl,hD⟩
end
end AI
end Go.Proofs.YthjeehjphekjmaaGreatDoor
