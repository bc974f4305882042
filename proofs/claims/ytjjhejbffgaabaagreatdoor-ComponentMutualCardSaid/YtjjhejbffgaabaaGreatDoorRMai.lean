/- Leaving out what repeats (slices.Compact[[]int,int]). The nodes one step on, and the levels: the program's and the reference's. Slices within reach; clones of values, properties, strings; looking up a node of any graph. Levels and distances between two nodes: the program's and the reference's. The distance between two nodes: the program's and the reference's. Sorting pairs in place: the order by the first. Distances of all nodes: the reference's. -/
import Derived.Test.YtjjhejbffgaabaaGreatDoorRMah
import Derived.Test.YtjjhejbffgaabaaGreatDoorRMag
import Derived.Test.YtjjhejbffgaabaaGreatDoorRMaf
import Derived.Test.YtjjhejbffgaabaaGreatDoorRMae
set_option linter.unusedVariables false
set_option maxRecDepth 4000
namespace Go.Proofs.YtjjhejbffgaabaaGreatDoor
namespace AI
section
open Go.Sort
theorem Ah2 {AX:Obj} {g len c:Nat} {nn cl:Bool} {d:Array Int} (hl:d.size=len) (hs:len<2^61):
 AY (Ac tab) 96 [.own 1 g 0 len] ⟨[AX,.arr g 1 nn cl (vs (.int .i64) d.toList)],c⟩ fun out s'=>∃c' T,out=.ok (.own 1 g 0 (O8 d len).length)∧s'=⟨[AX,.arr g 1 nn cl (vs (.int .i64) (O8 d len++T))],c'⟩:=by
 have hend:(∀ j,0<j→j<len→¬d[j]! =d[j-1]!)→O8 d len=d.toList:=fun h=>by
  rw[Ut len (by omega) h,List.take_of_length_le (by simp[hl])]
 refine AL rfl rfl ?_
 (conv=>whnf);repeat' (first  |(refine kA ?_;conv=>whnf)|(refine Br.mk (fun hc=>?_) fun hc=>?_<;>first|exact hc.elim|conv=>whnf)|(refine kB ?_))
 ·have e:=hend (fun j h0 hj=>absurd h0 (by omega))
  rw[e,Array.length_toList,hl]
  exact⟨_,[],rfl,by rw[List.append_nil]⟩
 refine Ah (fun m env s=>∃(k c:Nat),m=len-k∧0<k∧(∀ j,0<j→j<k→¬d[j]! =d[j-1]!)∧env=[(0,.own 1 g 0 len),(3,.int .i64 k)]∧s=⟨[AX,.arr g 1 nn cl (vs (.int .i64) d.toList)],c⟩) ?_ _ _ _ ⟨1,c,rfl,by omega,fun j h0 h1=>absurd h0 (by omega),rfl,rfl⟩
 rintro _ _ _ ⟨k,c,rfl,hk0,hk,rfl,rfl⟩
 refine⟨rfl,?_⟩
 (conv=>whnf);repeat' (first|((with_reducible show BX _ _ _);refine GI (k) ?_;conv=>whnf)|((with_reducible show BX _ _ _);refine GI (k-1) ?_;conv=>whnf)|(refine kA ?_;conv=>whnf)|(refine Br.mk (fun hc=>?_) fun hc=>?_<;>first|exact hc.elim|conv=>whnf)|(refine kB ?_))
 ·have h1:O8 d (k+1)=O8 d k:=KC hk0 (by assumption)
  have h2:O8 d k=d.toList.take k:=Ut k (by omega) hk
  obtain⟨k,rfl⟩:∃k',k=k'+1:=⟨k-1,by omega⟩
  refine Ah (fun m env s=>∃(k2 c w:Nat) (E:Array Int),m=len-(k+1)-k2∧0<k2∧k+1+k2≤len∧E.size=len∧w=(O8 d (k+1+k2)).length∧w<k+1+k2∧E.toList.take w=O8 d (k+1+k2)∧(∀ j,k+1+k2≤j+1→j<len→E[j]! =d[j]!)∧env=[(0,.own 1 g 0 len),(3,.int .i64 w),(4,.own 1 g (k+1) (len-(k+1))),(5,.int .i64 k2)]∧s=⟨[AX,.arr g 1 nn cl (vs (.int .i64) E.toList)],c⟩) ?_ _ _ _ ⟨1,_,k+1,d,rfl,by omega,by omega,hl,by rw[h1,h2];simp;omega,by omega,by rw[h1,h2],fun j _ _=>rfl,rfl,rfl⟩
  rintro _ _ _ ⟨k2,c,w,E,rfl,hk2,hkl,hE,hw,hwk,hW,hej,rfl,rfl⟩
  refine⟨rfl,?_⟩
  (conv=>whnf);repeat' (first|(apply Ak;(· exact nPn (k+1+k2) (by omega) (by first|omega|(simp;omega)));conv=>whnf)|(apply Ak;(· exact nPn (k+1+k2-1) (by omega) (by first|omega|(simp;omega)));conv=>whnf)|((with_reducible show BX _ _ _);refine GI (w) ?_;conv=>whnf)|((with_reducible show eqK _ _);refine LW XC (w) ?_;conv=>whnf)|(refine kA ?_;conv=>whnf)|(refine Br.mk (fun hc=>?_) fun hc=>?_<;>first|exact hc.elim|conv=>whnf)|(refine kB ?_))
  ·have e1:=hej (k+1+k2) (by omega) (by omega)
   have e2:=hej (k+1+k2-1) (by omega) (by omega)
   rw[e1,e2]at hc
   exact again.mk ⟨_,by omega,k2+1,_,w,E,rfl,by omega,by omega,hE,by rw[hw,←KC (d:=d) (n:=k+1+k2) (by omega) hc];rfl,by omega,by rw[hW,←KC (d:=d) (n:=k+1+k2) (by omega) hc];rfl,fun j h1 h2=>hej j (by omega) h2,rfl,rfl⟩
  ·have e1:=hej (k+1+k2) (by omega) (by omega)
   have e2:=hej (k+1+k2-1) (by omega) (by omega)
   rw[e1,e2]at hc
   have e3:O8 d (k+1+(k2+1))=O8 d (k+1+k2)++[d[k+1+k2]!]:=Nw fun _=>hc
   refine again.mk ⟨_,by omega,k2+1,_,w+1,E.setIfInBounds w E[k+1+k2]!,rfl,by omega,by omega,by simpa using hE,by rw[e3,List.length_append,←hw];rfl,by omega,?_,fun j h1 h2=>?_,rfl,rfl⟩
   ·rw[Array.toList_setIfInBounds,List.take_succ_eq_append_getElem (by simp;omega),e3,←hW,e1]
    simp[List.take_set_of_le]
   ·rw[← hej j (by omega) h2,getElem!_pos _ j (by simp;omega),getElem!_pos E j (by omega),Array.getElem_setIfInBounds_ne (by omega) (by omega)]
  ·have Aj7:k+1+k2=len:=by omega
   rw[Aj7]at hW hw hwk
   refine Aj (clr (n:=len-w) rfl rfl (by simp;omega) (by omega)) ?_
   have e4:List.take (Int.toNat (w:Int)) (vs (.int .i64) E.toList)=vs (.int .i64) (O8 d len++[]):=by
        rw[List.append_nil,←hW];simp[vs,List.map_take]
   (conv=>whnf);repeat' (first  |(refine kA ?_;conv=>whnf)|(refine Br.mk (fun hc=>?_) fun hc=>?_<;>first|exact hc.elim|conv=>whnf)|(refine kB ?_))
   refine⟨c,[],by rw[← hw];rfl,?_⟩
   rw[← e4]
   rfl
 ·exact again.mk ⟨_,by omega,k+1,_,rfl,by omega,fun j h0 hj=>by
   rcases Nat.lt_or_ge j k with h|h
   ·exact hk j h0 h
   ·obtain rfl:j=k:=by omega
    first|exact hc|assumption,rfl,rfl⟩
 ·have e:=hend (fun j h0 hj=>hk j h0 (by omega))
  rw[e,Array.length_toList,hl]
  exact⟨_,[],rfl,by rw[List.append_nil]⟩
end
section
open Go.Sort
abbrev vi (l:List Int):List AV:=vs (.int .i64) l
def fav (g:GG) (tn:Bool) (types:List (List UInt8)) (dir:Int):AV:=.agg [.sl g.nn (vs GN.av g.nodes),.sl g.en (vs GE.av g.edges),.int .i64 g.Gf,.int .i64 g.Ih,.sl tn (vs .str types),.int .i64 dir]
theorem AcM {W:List Int} {x:Int}:x∈O8 W.toArray W.length↔x∈W:=by
 rw[P5 W.length (by simp)];simp
theorem AkY {W:List Int} (hs:W.Pairwise (fun x y=>ltJ y x=false)):Inc (O8 W.toArray W.length):=by
 have ht:∀x y:Int,ltJ x y=false→ltJ y x=false→x=y:=fun x y h1 h2=>by
  have a:=MK.1 h1
  have b:=MK.1 h2
  omega
 refine List.Pairwise.imp (fun h=>NJ.1 h) (AaT AdM ht (d:=W.toArray) ?_ W.length (by simp))
 intro i j h0 hij hj
 simp only[List.size_toArray]at hj
 rw[getElem!_pos _ j (by simpa using hj),getElem!_pos _ i (by simp;omega)]
 simp only[List.getElem_toArray]
 exact List.pairwise_iff_getElem.1 hs i j (by omega) hj hij
theorem AcN {f:Int→List Int} {l:List Int} {i:Nat} (h:i<l.length):(l.take (i+1)).flatMap f=(l.take i).flatMap f++f l[i]:=by
 rw[List.take_succ_eq_append_getElem h,List.flatMap_append];simp
theorem SL {α β:Type} {f:α→β} {l:List α} {j:Nat} (h:j<l.length):(l.take (j+1)).map f=(l.take j).map f++[f l[j]]:=by
 rw[List.take_succ_eq_append_getElem h,List.map_append];rfl
theorem Ai1 {g:GG} {types:List (List UInt8)} {tn:Bool} {dir:Int} {l:List Int} {nn:Bool} {i:Nat} {W:List Bq} {wn:Bool} {O:List Int} {go c n:Nat} {fo:Bool} (hn:n=O.length) (hO:O.length≤1000000) (hW:W.length≤1000) {Q:Ar→Env→Ag→Prop}
 (hQ:∀go' c' n' fo' tl,n'=(O++W.map (·.to)).length→Q (.exit 2) ([(2,.ref 0 0 0 0),(5,.own 1 go' 0 n'),(10,.sl nn (vi l)),(11,.int .i64 l.length),(12,.int .i64 i),(23,.sl wn (vs Bq.av W)),(24,.int .i64 W.length),(25,.int .i64 W.length)]++tl) ⟨[.arr 0 6 true true [fav g tn types dir],.arr go' 1 fo' true (vi (O++W.map (·.to)))],c'⟩):
 Run (Ac tab) (.loop l75_0_h l75_0_b) [(2,.ref 0 0 0 0),(5,.own 1 go 0 n),(10,.sl nn (vi l)),(11,.int .i64 l.length),(12,.int .i64 i),(23,.sl wn (vs Bq.av W)),(24,.int .i64 W.length),(25,.int .i64 0)] ⟨[.arr 0 6 true true [fav g tn types dir],.arr go 1 fo true (vi O)],c⟩ Q:=by
 refine Ah (fun m env s=>∃(j go c n:Nat) (fo:Bool) (R:List Int),m=W.length-j∧j≤W.length∧R=O++(W.take j).map (·.to)∧n=R.length∧env=[(2,.ref 0 0 0 0),(5,.own 1 go 0 n),(10,.sl nn (vi l)),(11,.int .i64 l.length),(12,.int .i64 i),(23,.sl wn (vs Bq.av W)),(24,.int .i64 W.length),(25,.int .i64 j)]∧s=⟨[.arr 0 6 true true [fav g tn types dir],.arr go 1 fo true (vi R)],c⟩) ?_ _ _ _ ⟨0,go,c,n,fo,O,rfl,by omega,by simp,hn,rfl,rfl⟩
 rintro _ _ _ ⟨j,go,c,n,fo,R,rfl,hj,hR,hn,rfl,rfl⟩
 refine⟨rfl,?_⟩
 have hRl:R.length≤1001000:=by rw[hR];simp;omega
 by_cases hlt:j<W.length
 ·have hs:=SL (f:=fun a:Bq=>a.to) hlt
  (conv=>whnf);repeat' (first|(refine Abe (f:=.int .i64) (l:=R) (x:=(W[j]).to) XC hn (by omega) ?_;conv=>whnf)|(refine kA ?_;conv=>whnf)|(refine Br.mk (fun hc=>?_) fun hc=>?_<;>first|exact hc.elim|conv=>whnf)|(refine kB ?_))
  all_goals first
   |(exfalso;omega)
   |exact again.mk ⟨_,by omega,j+1,_,_,_,_,R++[(W[j]).to],rfl,by omega,by rw[hs,hR,List.append_assoc],by simp,rfl,rfl⟩
 ·rw[List.take_of_length_le (by omega)]at hR
  obtain rfl:j=W.length:=by omega
  subst hR
  (conv=>whnf);repeat' (first  |(refine kA ?_;conv=>whnf)|(refine Br.mk (fun hc=>?_) fun hc=>?_<;>first|exact hc.elim|conv=>whnf)|(refine kB ?_))
  all_goals first
   |exact hQ _ _ _ _ _ hn
set_option maxHeartbeats 1000000 in
theorem AiL {g:GG} (hg:g.ok) (hE:g.edges.length≤100) {types:List (List UInt8)} {tn:Bool} (ht:types.length<2^63) {dir:Int} {l:List Int} {nn:Bool} (hl:l.length≤1000):
 AQ (Ac tab) 75 [fav g tn types dir,.sl nn (vi l)] (fun v=>∃b,v=.sl b (vi (nextL (N9 types dir g.edges) l))):=by
 refine Ai rfl rfl ?_
 (conv=>whnf);repeat' (first  |(refine kA ?_;conv=>whnf)|(refine Br.mk (fun hc=>?_) fun hc=>?_<;>first|exact hc.elim|conv=>whnf)|(refine kB ?_))
 refine Ah (fun m env s=>∃(i go c n:Nat) (fo:Bool) (O:List Int),m=l.length-i∧i≤l.length∧n=O.length∧O.length≤i*100∧(∀ x,x∈O↔x∈(l.take i).flatMap (N9 types dir g.edges))∧env=[(2,.ref 0 0 0 0),(5,.own 1 go 0 n),(10,.sl nn (vi l)),(11,.int .i64 l.length),(12,.int .i64 i)]∧s=⟨[.arr 0 6 true true [fav g tn types dir],.arr go 1 fo true (vi O)],c⟩) ?_ _ _ _ ⟨0,_,_,_,_,[],rfl,by omega,rfl,by simp,by simp,by first|rfl|(rw [← lV (f:=.int .i64) l];rfl),rfl⟩
 rintro _ _ _ ⟨i,go,c,n,fo,O,rfl,hi,hn,hOl,hO,rfl,rfl⟩
 refine⟨rfl,?_⟩
 by_cases hlt:i<l.length
 ·have hs:=AcN (f:=N9 types dir g.edges) hlt
  obtain⟨_,⟨wn,W,rfl,pW,sW⟩,hp⟩:=(Afz (g:=g) hg hE (types:=types) (tn:=tn) ht (id:=l[i]) (dir:=dir)).Xj
  have hWl:W.length≤100:=by
   have h1:=pW.length_eq
   have h2:=@Vr types l[i] dir g.edges
   omega
  have hb:i*100≤100000:=by omega
  (conv=>whnf);repeat' (first|(refine Aa hp ?_;rintro _ rfl;conv=>whnf)|(refine kA ?_;conv=>whnf)|(refine Br.mk (fun hc=>?_) fun hc=>?_<;>first|exact hc.elim|conv=>whnf)|(refine kB ?_))
  all_goals first
   |(exfalso;omega)
   |skip
  refine Ai1 (O:=O) hn (by omega) (by omega) fun go' c' n' fo' tl hn'=>?_
  (conv=>whnf);repeat' (first  |(refine kA ?_;conv=>whnf)|(refine Br.mk (fun hc=>?_) fun hc=>?_<;>first|exact hc.elim|conv=>whnf)|(refine kB ?_))
  all_goals first
   |(exfalso;omega)
   |(refine again.mk ⟨_,by omega,i+1,_,_,_,_,O++W.map (·.to),rfl,by omega,hn',by simp;omega,fun x=>?_,rfl,rfl⟩
     rw[hs,List.mem_append,List.mem_append,hO]
     have h1:x∈W.map (·.to)↔x∈N9 types dir g.edges l[i]:=by unfold N9;exact(pW.map _).mem_iff
     rw[h1])
 ·rw[List.take_of_length_le (by omega)]at hO
  have hOb:O.length≤100000:=by omega
  clear hOl
  (conv=>whnf);repeat' (first  |(refine kA ?_;conv=>whnf)|(refine Br.mk (fun hc=>?_) fun hc=>?_<;>first|exact hc.elim|conv=>whnf)|(refine kB ?_))
  refine(Af4 (L:=O) hn.symm (by omega)).mono ?_
  rintro _ _ ⟨c1,W,rfl,rfl,p1,p2⟩
  have hw:=p1.length_eq
  conv=>whnf
  apply Aj rfl
  (conv=>whnf);repeat' (first  |(refine kA ?_;conv=>whnf)|(refine Br.mk (fun hc=>?_) fun hc=>?_<;>first|exact hc.elim|conv=>whnf)|(refine kB ?_))
  refine(Ah2 (d:=W.toArray) (by simp;omega) (by omega)).mono ?_
  rintro _ _ ⟨c3,T,rfl,rfl⟩
  rw[show n=W.length by omega]
  conv=>whnf
  apply Aj rfl
  (conv=>whnf);repeat' (first  |(refine kA ?_;conv=>whnf)|(refine Br.mk (fun hc=>?_) fun hc=>?_<;>first|exact hc.elim|conv=>whnf)|(refine kB ?_))
  refine⟨fo,?_⟩
  have e:nextL (N9 types dir g.edges) l=O8 W.toArray W.length:=by
   refine(XZ (AkY p2) fun x=>?_).symm
   rw[AcM,p1.mem_iff,hO]
  rw[e,Ag6];simp
end
theorem RV {n:Nat} (h:n≤reachBytes):n≤2 ^ 47:=by unfold reachBytes at h;omega
theorem AeD:Tryz.prog.bytesOf 53=64:=by kernel_rfl
theorem Ag7:Tryz.prog.bytesOf 109=80:=by kernel_rfl
theorem AcY:Tryz.prog.bytesOf 9=16:=by kernel_rfl
def Fv:Nat→GV→Prop
 |0,_=>False
 |d+1,v=>v.l.length*64≤2 ^ 47∧∀x∈v.l,∃u:GV,x=u.av∧u.ok∧Fv d u
theorem Afr:∀{d e:Nat} {v:GV},d≤e→Fv d v→Fv e v
 |0,_,_,_,h=>absurd h id
 |d+1,0,_,h,_=>by omega
 |d+1,e+1,v,h,hd=>⟨hd.1,fun x hx=>by
  obtain⟨u,e1,h1,h2⟩:=hd.2 x hx
  exact⟨u,e1,h1,Afr (by omega) h2⟩⟩
theorem Vd:∀(d:Nat) {cs:List AV},Cc Tryz.prog d 53 cs→∃v:GV,cs=[.int .i64 v.k,.int .i64 v.n,.int .i64 v.d,.str v.s,.sl v.nn v.l]∧v.ok∧Fv d v:=by
 intro d
 induction d using Nat.strongRecOn with
 |ind d ih=>
  intro cs h
  obtain⟨v,rfl,hv⟩:=IG h
  refine⟨v,rfl,hv,?_⟩
  obtain⟨d',rfl,g1,g2⟩:=CW Tryz.underlying53 h
  simp only[List.forall_mem_cons]at g2
  obtain⟨_,_,_,_,f5,_⟩:=g2
  simp only[Xg,List.drop_zero,List.drop_succ_cons,List.take_succ_cons,List.take_zero]at f5
  have hs:=RV (JF Tryz.underlying51 f5)
  rw[AeD]at hs
  obtain⟨d'',rfl,nl,xs,e5,h5,h6,h7⟩:=IB Tryz.underlying51 f5
  cases e5
  refine⟨hs,fun x hx=>?_⟩
  obtain⟨cs',rfl,k⟩:=Dq Tryz.underlying53 (h7 x hx)
  obtain⟨u,rfl,k1,k2⟩:=ih d'' (by omega) k
  exact⟨u,rfl,k1,Afr (by omega) k2⟩
def AeE (p:GP):Prop:=∃d,Fv d p.v
def Ag8 (n:GN):Prop:=n.labels.length*16≤2 ^ 47∧n.props.length*80≤2 ^ 47∧∀p∈n.props,AeE p
def ZW (g:GG):Prop:=∀n∈g.nodes,Ag8 n
theorem Yy {d:Nat} {a:AV} (h:like Tryz.prog d 109 a):∃v:GP,a=v.av∧v.ok∧AeE v:=by
 obtain⟨cs,rfl,h0⟩:=Dq Tryz.underlying109 h
 obtain⟨d',rfl,g1,g2⟩:=CW Tryz.underlying109 h0
 rw[AcZ]at g1
 obtain⟨a,b,c,e,f,g,rfl⟩:=Af3 g1
 clear g1
 simp only[List.forall_mem_cons]at g2
 obtain⟨f1,f2,_⟩:=g2
 simp only[KL,Qc,List.drop_zero,List.drop_succ_cons,List.take_succ_cons,List.take_zero]at f1 f2
 obtain⟨s,e1,h1⟩:=NM f1
 obtain⟨v,e2,h2,h3⟩:=Vd _ f2
 cases e1;cases e2
 exact⟨⟨s,v⟩,rfl,⟨h1,h2⟩,_,h3⟩
theorem Yz {d:Nat} {a:AV} (h:like Tryz.prog d 41 a):∃v:GN,a=v.av∧v.ok∧Ag8 v:=by
 obtain⟨cs,rfl,h0⟩:=Dq Tryz.underlying41 h
 obtain⟨d',rfl,g1,g2⟩:=CW Tryz.underlying41 h0
 rw[Ag9]at g1
 obtain⟨a,b,c,rfl⟩:=Ak8 g1
 clear g1
 simp only[List.forall_mem_cons]at g2
 obtain⟨f1,f2,f3,_⟩:=g2
 simp only[Ti,TP,Zk,List.drop_zero,List.drop_succ_cons,List.take_succ_cons,List.take_zero]at f1 f2 f3
 obtain⟨s,e1,h1⟩:=Ef f1
 obtain⟨ln,L,e2,h2,h2a,h2b⟩:=JB (f:=.str) (Q:=Ln) Tryz.underlying26 (fun d x h=>Ac0 h) f2
 obtain⟨pn,P,e3,h3,h3a,h3b⟩:=JB (f:=GP.av) (Q:=fun p=>p.ok∧AeE p) Tryz.underlying39 (fun d x h=>Yy h) f3
 cases e1;cases e2;cases e3
 have w2:=RV (JF Tryz.underlying26 f2)
 have w3:=RV (JF Tryz.underlying39 f3)
 rw[AcY,lV]at w2
 rw[Ag7,lV]at w3
 exact⟨⟨s,ln,L,pn,P⟩,rfl,⟨h1,h2a,h2,h2b,h3a,h3,fun p hp=>(h3b p hp).1⟩,w2,w3,fun p hp=>(h3b p hp).2⟩
theorem Wq {a:AV} (h:Like Tryz.prog 25 a):∃v:GG,a=v.av∧v.ok∧ZW v:=by
 obtain⟨d,h⟩:=h
 obtain⟨cs,rfl,h0⟩:=Dq Tryz.underlying25 h
 obtain⟨d',rfl,g1,g2⟩:=CW Tryz.underlying25 h0
 rw[YW]at g1
 obtain⟨a,b,c,e,rfl⟩:=Ala g1
 clear g1
 simp only[List.forall_mem_cons]at g2
 obtain⟨f1,f2,f3,f4,_⟩:=g2
 simp only[Ti,AeF,AeG,List.drop_zero,List.drop_succ_cons,List.take_succ_cons,List.take_zero]at f1 f2 f3 f4
 obtain⟨nn,N,e1,h1,h1a,h1b⟩:=JB (f:=GN.av) (Q:=fun n=>n.ok∧Ag8 n) Tryz.underlying22 (fun d x h=>Yz h) f1
 obtain⟨en,E,e2,h2,h2a,h2b⟩:=JB (f:=GE.av) (Q:=GE.ok) Tryz.underlying23 (fun d x h=>AaF h) f2
 obtain⟨m,e3,h3⟩:=Ef f3
 obtain⟨k,e4,h4⟩:=Ef f4
 cases e1;cases e2;cases e3;cases e4
 exact⟨⟨nn,N,en,E,m,k⟩,rfl,⟨h1a,h1,fun n hn=>(h1b n hn).1,h2a,h2,h2b,h3,h4⟩,fun n hn=>(h1b n hn).2⟩
theorem Lm {g es:Nat} {ys:List AV} {bytes:Nat} {K:Nat→Bool→Bool→List AV→Prop} (hs:Bg es ys) (hr:ys.length*bytes≤2 ^ 47) (h:K ys.length true true ys):
 JG g g es es 0 true true true [] ys bytes K:=by
 refine⟨⟨rfl,rfl,by simp,hs,?_⟩,?_⟩
 ·rw[Nat.zero_add];exact hr
 ·rw[Nat.zero_add];exact h
theorem Ac1:AY (Ac tab) 94 [.sl false []] ⟨[],0⟩ fun out _=>out=.ok (.sl false []):=by
 refine AL rfl rfl ?_
 (conv=>whnf);repeat' (first  |(refine kA ?_;conv=>whnf)|(refine Br.mk (fun hc=>?_) fun hc=>?_<;>first|exact hc.elim|conv=>whnf)|(refine kB ?_))
 rfl
theorem AeH {l:List AV} (hs:Bg 5 l) (hl:l.length*64≤2 ^ 47):AY (Ac tab) 94 [.sl true l] ⟨[],0⟩ fun out s'=>∃o g,out=.ok (.own o g 0 l.length)∧nth s'.σ o=some (.arr g 5 true true l):=by
 refine AL rfl rfl ?_
 (conv=>whnf);repeat' (first  |(refine kA ?_;conv=>whnf)|(refine Br.mk (fun hc=>?_) fun hc=>?_<;>first|exact hc.elim|conv=>whnf)|(refine kB ?_))
 refine Lm hs hl ?_
 (conv=>whnf);repeat' (first  |(refine kA ?_;conv=>whnf)|(refine Br.mk (fun hc=>?_) fun hc=>?_<;>first|exact hc.elim|conv=>whnf)|(refine kB ?_))
 exact⟨_,_,rfl,rfl⟩
theorem Uj {l:List AV} {z:Nat} {x:AV} (h:nth l z=some x):l.set z x=l:=by
 rw[Az]at h
 obtain⟨hz,rfl⟩:=List.getElem?_eq_some_iff.1 h
 exact List.set_getElem_self hz
theorem Zl (l:List AV):sub l 0 l.length=l:=by unfold sub;exact List.take_of_length_le (by simp)
theorem AeI {d:Nat} {l:List AV} (h:∀x∈l,∃u:GV,x=u.av∧u.ok∧Fv d u):Bg 5 l:=by
 intro x hx
 obtain⟨u,rfl,_⟩:=h x hx
 rfl
theorem YA {d:Nat} {g:GV} (hg:g.ok) (h2:g.l.length*64≤2 ^ 47) (h3:∀x∈g.l,∃u:GV,x=u.av∧u.ok∧Fv d u) (ih:∀{g:GV},g.ok→Fv d g→AQ (Ac tab) 73 [g.av] (· =g.av)):
 AQ (Ac tab) 73 [g.av] (· =g.av):=by
 obtain⟨g1,g2,g3,g4,g5,g6,g7⟩:=hg
 obtain⟨k,n,dd,s,nn,l⟩:=g
 simp only at*
 cases nn with
 |false=>
  obtain rfl:=g6 rfl
  refine Ai rfl rfl ?_
  (conv=>whnf);repeat' (first  |(refine kA ?_;conv=>whnf)|(refine Br.mk (fun hc=>?_) fun hc=>?_<;>first|exact hc.elim|conv=>whnf)|(refine kB ?_))
  refine QI rfl Ac1 ?_
  (conv=>whnf);repeat' (first  |(refine kA ?_;conv=>whnf)|(refine Br.mk (fun hc=>?_) fun hc=>?_<;>first|exact hc.elim|conv=>whnf)|(refine kB ?_))
  refine Jy ?_ rfl
  (conv=>whnf);repeat' (first  |(refine kA ?_;conv=>whnf)|(refine Br.mk (fun hc=>?_) fun hc=>?_<;>first|exact hc.elim|conv=>whnf)|(refine kB ?_))
  rfl
 |true=>
  refine Ai rfl rfl ?_
  (conv=>whnf);repeat' (first  |(refine kA ?_;conv=>whnf)|(refine Br.mk (fun hc=>?_) fun hc=>?_<;>first|exact hc.elim|conv=>whnf)|(refine kB ?_))
  refine AfX rfl (AeH (AeI h3) h2) ?_
  (conv=>whnf);repeat' (first  |(refine kA ?_;conv=>whnf)|(refine Br.mk (fun hc=>?_) fun hc=>?_<;>first|exact hc.elim|conv=>whnf)|(refine kB ?_))
  refine Ah (fun m env st=>∃i:Nat,m=l.length-i∧env=[(1,.ref 0 0 0 0),(2,.ref 1 1 0 0),(10,.int .i64 l.length),(11,.int .i64 i)]∧st=⟨[.arr 0 5 true false [.agg [.int .i64 k,.int .i64 n,.int .i64 dd,.str s,.own 2 2 0 l.length]],.arr 1 5 true true [.agg [.int .i64 0,.int .i64 0,.int .i64 0,.str [],.sl false []]],.arr 2 5 true true l],3⟩) ?_ _ _ _ ⟨0,rfl,rfl,rfl⟩
  rintro _ _ _ ⟨i,rfl,rfl,rfl⟩
  refine⟨rfl,?_⟩
  unfold Ln at g5
  by_cases hlt:i<l.length
  ·obtain⟨u,e,hu,hd⟩:=h3 _ (List.getElem_mem hlt)
   have hn:nth l (Int.toNat (Nat.cast i))=some u.av:=by rw[← e];exact nRN hlt
   (conv=>whnf);repeat' (first|(apply Ak;(· exact hn);conv=>whnf)|(refine Aa (ih hu hd) ?_;rintro _ rfl;conv=>whnf)|(apply Bj;(· exact Uj (x:=u.av) hn);conv=>whnf)|(refine kA ?_;conv=>whnf)|(refine Br.mk (fun hc=>?_) fun hc=>?_<;>first|exact hc.elim|conv=>whnf)|(refine kB ?_))
   all_goals first
        |(exfalso;omega)
        |exact again.mk ⟨_,by omega,i+1,rfl,rfl,rfl⟩
  ·(conv=>whnf);repeat' (first  |(refine kA ?_;conv=>whnf)|(refine Br.mk (fun hc=>?_) fun hc=>?_<;>first|exact hc.elim|conv=>whnf)|(refine kB ?_))
   all_goals first
        |(exfalso;omega)
        |(rw [Zl];rfl)
theorem Uk:∀(d:Nat) {g:GV},g.ok→Fv d g→AQ (Ac tab) 73 [g.av] (· =g.av)
 |0,_,_,h=>by cases h
 |d+1,g,hg,h=>YA hg h.1 h.2 (Uk d)
theorem AeJ {l:List (List UInt8)} {nn:Bool} (hl:l.length*16≤2 ^ 47) (hn:nn=false→l=[]):AQ (Ac tab) 41 [.sl nn (vs .str l)] (· =.sl nn (vs .str l)):=by
 cases nn with
 |false=>
  obtain rfl:=hn rfl
  refine Ai rfl rfl ?_
  (conv=>whnf);repeat' (first  |(refine kA ?_;conv=>whnf)|(refine Br.mk (fun hc=>?_) fun hc=>?_<;>first|exact hc.elim|conv=>whnf)|(refine kB ?_))
  rfl
 |true=>
  refine Ai rfl rfl ?_
  (conv=>whnf);repeat' (first  |(refine kA ?_;conv=>whnf)|(refine Br.mk (fun hc=>?_) fun hc=>?_<;>first|exact hc.elim|conv=>whnf)|(refine kB ?_))
  refine Lm (Nh (f:=.str) (fun _=>rfl) l) (by rw[lV];omega) ?_
  (conv=>whnf);repeat' (first  |(refine kA ?_;conv=>whnf)|(refine Br.mk (fun hc=>?_) fun hc=>?_<;>first|exact hc.elim|conv=>whnf)|(refine kB ?_))
  rw[lV,uV]
theorem Ac2:AY (Ac tab) 72 [.sl false []] ⟨[],0⟩ fun out _=>out=.ok (.sl false []):=by
 refine AL rfl rfl ?_
 (conv=>whnf);repeat' (first  |(refine kA ?_;conv=>whnf)|(refine Br.mk (fun hc=>?_) fun hc=>?_<;>first|exact hc.elim|conv=>whnf)|(refine kB ?_))
 rfl
theorem AeK {l:List GP} (hl:l.length*80≤2 ^ 47):AY (Ac tab) 72 [.sl true (vs GP.av l)] ⟨[],0⟩ fun out s'=>∃o g,out=.ok (.own o g 0 (vs GP.av l).length)∧nth s'.σ o=some (.arr g 6 true true (vs GP.av l)):=by
 refine AL rfl rfl ?_
 (conv=>whnf);repeat' (first  |(refine kA ?_;conv=>whnf)|(refine Br.mk (fun hc=>?_) fun hc=>?_<;>first|exact hc.elim|conv=>whnf)|(refine kB ?_))
 refine Lm (Nh (f:=GP.av) (fun _=>rfl) l) (by rw[lV];omega) ?_
 (conv=>whnf);repeat' (first  |(refine kA ?_;conv=>whnf)|(refine Br.mk (fun hc=>?_) fun hc=>?_<;>first|exact hc.elim|conv=>whnf)|(refine kB ?_))
 exact⟨_,_,rfl,rfl⟩
theorem Ac3 {ps:List GP} {nn:Bool} (hl:ps.length*80≤2 ^ 47) (hn:nn=false→ps=[]) (hok:∀p∈ps,p.ok) (hL:∀p∈ps,AeE p):AQ (Ac tab) 42 [.sl nn (vs GP.av ps)] (· =.sl nn (vs GP.av ps)):=by
 cases nn with
 |false=>
  obtain rfl:=hn rfl
  refine Ai rfl rfl ?_
  (conv=>whnf);repeat' (first  |(refine kA ?_;conv=>whnf)|(refine Br.mk (fun hc=>?_) fun hc=>?_<;>first|exact hc.elim|conv=>whnf)|(refine kB ?_))
  refine QI rfl Ac2 ?_
  (conv=>whnf);repeat' (first  |(refine kA ?_;conv=>whnf)|(refine Br.mk (fun hc=>?_) fun hc=>?_<;>first|exact hc.elim|conv=>whnf)|(refine kB ?_))
  refine Jy ?_ rfl
  (conv=>whnf);repeat' (first  |(refine kA ?_;conv=>whnf)|(refine Br.mk (fun hc=>?_) fun hc=>?_<;>first|exact hc.elim|conv=>whnf)|(refine kB ?_))
  rfl
 |true=>
  refine Ai rfl rfl ?_
  (conv=>whnf);repeat' (first  |(refine kA ?_;conv=>whnf)|(refine Br.mk (fun hc=>?_) fun hc=>?_<;>first|exact hc.elim|conv=>whnf)|(refine kB ?_))
  refine AfX rfl (AeK hl) ?_
  (conv=>whnf);repeat' (first  |(refine kA ?_;conv=>whnf)|(refine Br.mk (fun hc=>?_) fun hc=>?_<;>first|exact hc.elim|conv=>whnf)|(refine kB ?_))
  refine Ah (fun m env st=>∃i:Nat,m=ps.length-i∧env=[(3,.own 0 0 0 (vs GP.av ps).length),(8,.int .i64 (vs GP.av ps).length),(9,.int .i64 i)]∧st=⟨[.arr 0 6 true true (vs GP.av ps)],1⟩) ?_ _ _ _ ⟨0,rfl,rfl,rfl⟩
  rintro _ _ _ ⟨i,rfl,rfl,rfl⟩
  refine⟨rfl,?_⟩
  have hll:(vs GP.av ps).length=ps.length:=lV _
  by_cases hlt:i<ps.length
  ·obtain⟨d,hd⟩:=hL _ (List.getElem_mem hlt)
   have hv:=(hok _ (List.getElem_mem hlt)).2
   (conv=>whnf);repeat' (first|(refine Aa (Uk d (g:=ps[i].v) hv hd) ?_;rintro _ rfl;conv=>whnf)|(apply Bj;(· exact Uj (x:=(ps[i]).av) (nVN (by omega)));conv=>whnf)|(refine kA ?_;conv=>whnf)|(refine Br.mk (fun hc=>?_) fun hc=>?_<;>first|exact hc.elim|conv=>whnf)|(refine kB ?_))
   all_goals first
        |(exfalso;omega)
        |exact again.mk ⟨_,by omega,i+1,rfl,rfl,rfl⟩
  ·(conv=>whnf);repeat' (first  |(refine kA ?_;conv=>whnf)|(refine Br.mk (fun hc=>?_) fun hc=>?_<;>first|exact hc.elim|conv=>whnf)|(refine kB ?_))
   all_goals first
        |(exfalso;omega)
        |(rw [Zl];done)
theorem AbW {g:GG} (hg:g.ok) (hf:ZW g) (hl:g.nodes.length<2^62) {id:Int}:AQ (Ac tab) 18 [g.av,.int .i64 id] (fun v=>∃n:GN,v=.Du [n.av,.bool (decide (id∈g.nodes.map GN.id))]):=by
 refine Ai rfl rfl ?_
 (conv=>whnf);repeat' (first  |(refine kA ?_;conv=>whnf)|(refine Br.mk (fun hc=>?_) fun hc=>?_<;>first|exact hc.elim|conv=>whnf)|(refine kB ?_))
 refine Ah (fun m env s=>∃i c:Nat,m=g.nodes.length-i∧(∀ x∈g.nodes.take i,x.id≠id)∧env=[(1,.int .i64 id),(4,.ref 1 1 0 0),(9,.sl g.nn (vs GN.av g.nodes)),(10,.int .i64 g.nodes.length),(11,.int .i64 i)]∧s=⟨[.arr 0 4 true true [g.av],.arr 1 3 true true [.agg [.int .i64 0,.sl false [],.sl false []]]],c⟩) ?_ _ _ _ ⟨0,_,rfl,by simp,by first|rfl|(rw [← lV (f:=GN.av) g.nodes];rfl),rfl⟩
 rintro _ _ _ ⟨i,c,rfl,hx,rfl,rfl⟩
 refine⟨rfl,?_⟩
 by_cases hlt:i<g.nodes.length
 ·have hm:=List.getElem_mem hlt
  obtain⟨_,_,o1,_,_,o2,o3⟩:=hg.2.2.1 _ hm
  obtain⟨w1,w2,w3⟩:=hf _ hm
  by_cases he:(g.nodes[i]).id=id
  ·have hin:id∈g.nodes.map GN.id:=List.mem_map.2 ⟨_,hm,he⟩
   rw[decide_eq_true hin]
   (conv=>whnf);repeat' (first|((first|refine Aa (AeJ (l:=g.nodes[i].labels) w1 o1) ?_|refine Aa (Ac3 (ps:=g.nodes[i].props) w2 o2 o3 w3) ?_);rintro _ rfl;conv=>whnf)|(refine kA ?_;conv=>whnf)|(refine Br.mk (fun hc=>?_) fun hc=>?_<;>first|exact hc.elim|conv=>whnf)|(refine kB ?_))
   all_goals first
        |(exfalso;omega)
        |exact⟨⟨id,_,_,_,_⟩,rfl⟩
  ·(conv=>whnf);repeat' (first  |(refine kA ?_;conv=>whnf)|(refine Br.mk (fun hc=>?_) fun hc=>?_<;>first|exact hc.elim|conv=>whnf)|(refine kB ?_))
   all_goals first
        |(exfalso;omega)
        |exact again.mk ⟨_,by omega,i+1,_,rfl,fun x hx'=>by
          rw[List.take_succ_eq_append_getElem hlt,List.mem_append,List.mem_singleton]at hx'
          rcases hx' with k|k
          ·exact hx x k
          ·subst k;exact he,rfl,rfl⟩
 ·rw[List.take_of_length_le (by omega)]at hx
  have hin:¬id∈g.nodes.map GN.id:=fun k=>by obtain⟨n,hn,e⟩:=List.mem_map.1 k;exact hx n hn e
  rw[decide_eq_false hin]
  (conv=>whnf);repeat' (first  |(refine kA ?_;conv=>whnf)|(refine Br.mk (fun hc=>?_) fun hc=>?_<;>first|exact hc.elim|conv=>whnf)|(refine kB ?_))
  all_goals first
   |(exfalso;omega)
   |exact⟨⟨0,false,[],false,[]⟩,rfl⟩
def TF (E:List GE):List Int:=E.flatMap fun e=>[e.fr,e.to]
theorem Oa:∀{E:List GE},(TF E).length=2*E.length
 |[]=>rfl
 |e::E=>by
  have:=@Oa E
  unfold TF at*
  simp only[List.flatMap_cons,List.length_append,List.length_cons,List.length_nil,this]
  omega
theorem Q8 {types:List (List UInt8)} {dir:Int} {E:List GE} {a x:Int} (h:x∈N9 types dir E a):x∈TF E:=by
 obtain⟨e,he,_,h⟩:=YS.1 h
 refine List.mem_flatMap.2 ⟨e,he,?_⟩
 rcases h with h|h
 ·rw[← h.2.2];simp
 ·rw[← h.2.2];simp
def Po (nb:Int→List Int) (a:Int) (n:Nat) (L:List (Bool×List Int)):Prop:=L.map (·.2)=(List.range n).map (X0 nb a)
theorem Po.len {nb:Int→List Int} {a:Int} {n:Nat} {L:List (Bool×List Int)} (h:Po nb a n L):L.length=n:=by
 have:=congrArg List.length h;simpa using this
theorem Po.at {nb:Int→List Int} {a:Int} {n:Nat} {L:List (Bool×List Int)} (h:Po nb a n L) {i:Nat} (hi:i<L.length):(L[i]).2=X0 nb a i:=by
 have h1:(L.map (·.2))[i]?=((List.range n).map (X0 nb a))[i]?:=by rw[h]
 have hn:=h.len
 simp[hi]at h1
 rw[List.getElem?_eq_getElem (by simp;omega)]at h1
 simpa using h1
theorem Po.more {nb:Int→List Int} {a:Int} {n:Nat} {L:List (Bool×List Int)} (h:Po nb a n L) (b:Bool):Po nb a (n+1) (L++[(b,X0 nb a n)]):=by
 unfold Po at*
 rw[List.map_append,h,List.range_succ,List.map_append]
 rfl
def ZX (g:GG) (a:Int):Prop:=a∈g.nodes.map GN.id
instance (g:GG) (a:Int):Decidable (ZX g a):=by unfold ZX;infer_instance
theorem Aek {g:GG} (hg:g.ok) (hf:ZW g) (hl:g.nodes.length<2^62) {a:Int}:AQ (Ac tab) 74 [g.av,.int .i64 a] (· =.bool (decide (ZX g a))):=by
 obtain⟨_,⟨n,rfl⟩,hp⟩:=(AbW hg hf hl (id:=a)).Xj
 refine Ai rfl rfl ?_
 (conv=>whnf);repeat' (first|(refine Aa hp ?_;rintro _ rfl;conv=>whnf)|(refine kA ?_;conv=>whnf)|(refine Br.mk (fun hc=>?_) fun hc=>?_<;>first|exact hc.elim|conv=>whnf)|(refine kB ?_))
 all_goals first|exact congrArg AV.bool hc.symm
section
open Go.Sort
def A8 (p:Int×Int):AV:=.agg [.int .i64 p.1,.int .i64 p.2]
theorem BG (x:Int×Int):(A8 x).cells.length=2:=rfl
def CU (x y:Int×Int):Bool:=decide (Kv x.1 y.1<0)
theorem Nr:SWO CU:=(Afu.on Prod.fst).swo
theorem YE {x y:Int×Int}:CU x y=true↔x.1<y.1:=by unfold CU;rw[decide_eq_true_eq];exact Qp
theorem ET {x y:Int×Int}:AQ (Ac tab) 77 [A8 x,A8 y] (· =.int .i64 (Kv x.1 y.1)):=by
 have q4:AQ (Ac tab) 66 [.int .i64 x.1,.int .i64 y.1] (· =.int .i64 (Kv x.1 y.1)):=compare
 refine Ai rfl rfl ?_
 (conv=>whnf);repeat' (first|(refine Aa q4 ?_;rintro _ rfl;conv=>whnf)|(refine kA ?_;conv=>whnf)|(refine Br.mk (fun hc=>?_) fun hc=>?_<;>first|exact hc.elim|conv=>whnf)|(refine kB ?_))
 all_goals first|rfl
theorem Gh {x y:Int×Int} {A B:Prop} (h1:CU x y=true→A) (h2:CU x y=false→B):LV (Kv x.1 y.1<0) A B:=
 ⟨fun h=>h1 (decide_eq_true h),fun h=>h2 (decide_eq_false h)⟩
attribute [irreducible] CU
end
def pz (p:Int×Nat):Int×Int:=(p.1,p.2)
structure AgP (seen:List (Int×Nat)) (O:List (Int×Int)):Prop where
 inc:O.Pairwise fun p q=>p.1<q.1
 mem:∀p,p∈O↔p∈seen.map pz
section
variable {types:List (List UInt8)} {dir:Int} {E:List GE}
theorem SB.few {a:Int} {d:Nat} {seen:List (Int×Nat)} {level:List Int} (h:SB (N9 types dir E) a d seen level):seen.length≤1+2*E.length:=by
 have:=List.Nodup.length_le_of_subset h.nd (l₂:=a::TF E) fun x hx=>by
  obtain⟨p,hp,rfl⟩:=List.mem_map.1 hx
  have hw:=(h.ok p hp).2.1
  cases hk:p.2 with
  |zero=>rw[hk,MQ]at hw;simp[hw]
  |succ k=>
   rw[hk]at hw
   obtain⟨y,_,hy⟩:=(Ip _).1 hw
   exact List.mem_cons_of_mem _ (Q8 hy)
 rw[List.length_map,List.length_cons,Oa]at this
 omega
theorem SB.Aac {a:Int} {d:Nat} {seen:List (Int×Nat)} {level:List Int} (h:SB (N9 types dir E) a d seen level):level.length≤1+2*E.length:=by
 have h1:=YX h.inc (U:=seen.map (·.1)) fun x hx=>List.mem_map.2 ⟨_,(h.lv x).1 hx,rfl⟩
 have h2:=h.few
 rw[List.length_map]at h1
 omega
def AbT (seen:List (Int×Nat)) (level:List Int):Nat:=2*(1000-seen.length)+(if level=[]then 0 else 1)
theorem SB.less {a:Int} {d:Nat} {seen:List (Int×Nat)} {level:List Int} (h:SB (N9 types dir E) a d seen level) (hE:E.length≤100) (hne:level≠[]):AbT (seen++(fresh seen (nextL (N9 types dir E) level)).map fun x=>(x,d)) (fresh seen (nextL (N9 types dir E) level))<AbT seen level:=by
 have h1:=h.few
 have h2:=(h.step).few
 unfold AbT
 rw[List.length_append,List.length_map]at*
 rw[if_neg hne]
 split
 ·rename_i e;rw[e]at h2 ⊢;simp at h2 ⊢
 ·rename_i e
  have:0<(fresh seen (nextL (N9 types dir E) level)).length:=List.length_pos_iff.2 e
  omega
end
theorem X4 {seen:List (Int×Nat)} {N:List Int} {j:Nat} (h:j<N.length):fresh seen (N.take (j+1))=fresh seen (N.take j)++if N[j]∈seen.map (·.1)then[]else[N[j]]:=by
 unfold fresh
 rw[List.take_succ_eq_append_getElem h,List.filter_append]
 congr 1
 simp only[List.filter_cons,List.filter_nil]
 by_cases hc:N[j]∈seen.map (·.1)
 ·rw[if_pos hc,if_neg (by simp[hc])]
 ·rw[if_neg hc,if_pos (by simp[hc])]
structure DsO (nb:Int→List Int) (a:Int) (O:List (Int×Int)):Prop where
 inc:O.Pairwise fun p q=>p.1<q.1
 mem:∀p:Int×Int,p∈O↔∃k:Nat,p.2=k∧IsD nb a p.1 k
theorem AgP.ds {nb:Int→List Int} {a:Int} {d:Nat} {seen:List (Int×Nat)} {O:List (Int×Int)} (h:AgP seen O) (hb:SB nb a d seen []):DsO nb a O where
 inc:=h.inc
 mem p:=by
  rw[h.mem,List.mem_map]
  constructor
  ·rintro⟨q,hq,rfl⟩;exact⟨q.2,rfl,(hb.done nb _ _).1 hq⟩
  ·rintro⟨k,e,hk⟩;exact⟨(p.1,k),(hb.done nb _ _).2 hk,by unfold pz;rw[← e]⟩
theorem DsO.unique {nb:Int→List Int} {a:Int} {O O':List (Int×Int)} (h:DsO nb a O) (k:DsO nb a O'):O=O':=by
 have hm:∀p,p∈O↔p∈O':=fun p=>(h.mem p).trans (k.mem p).symm
 have hi:=h.inc
 have ki:=k.inc
 clear h k
 induction O generalizing O' with
 |nil=>cases O' with
  |nil=>rfl
  |cons b m=>exact absurd ((hm b).2 (by simp)) (by simp)
 |cons a l ih=>cases O' with
  |nil=>exact absurd ((hm a).1 (by simp)) (by simp)
  |cons b m=>
   have k1:=List.pairwise_cons.1 hi
   have k2:=List.pairwise_cons.1 ki
   have hab:a=b:=by
        rcases List.mem_cons.1 ((hm a).1 (by simp))with e|e
        ·exact e
        rcases List.mem_cons.1 ((hm b).2 (by simp))with e2|e2
        ·exact e2.symm
        have:=k1.1 b e2;have:=k2.1 a e;omega
   subst hab
   rw[ih (fun x=>?_) k1.2 k2.2]
   have hx:=hm x
   simp only[List.mem_cons]at hx
   constructor
   ·intro hl
    rcases hx.1 (.inr hl)with e|e
    ·subst e;exact absurd (k1.1 x hl) (by omega)
    ·exact e
   ·intro hl
    rcases hx.2 (.inr hl)with e|e
    ·subst e;exact absurd (k2.1 x hl) (by omega)
    ·exact e
end AI
end Go.Proofs.YtjjhejbffgaabaaGreatDoor
