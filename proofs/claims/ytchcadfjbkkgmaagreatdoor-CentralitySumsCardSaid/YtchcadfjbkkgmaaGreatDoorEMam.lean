/- Betweenness: the program's. The sum of all distances less the number of reachable pairs, as the law reckons it. -/
import Derived.Test.YtchcadfjbkkgmaaGreatDoorEMal
import Derived.Test.YtchcadfjbkkgmaaGreatDoorEMaf
set_option linter.unusedVariables false
set_option maxRecDepth 4000
namespace Go.Proofs.YtchcadfjbkkgmaaGreatDoor
namespace AI
section
variable {D:Nat→Nat→Int} {P:Nat→Nat→Nat} {n v s:Nat}
theorem Yv {a:Nat×Nat} (h:∀t,QM D v s t=false):∀k,rowB D P v s (some a) k=some a
 |0=>rfl
 |k+1=>by
  show(rowB D P v s (some a) k).bind _=_
  rw[Yv h k]
  show stB D P v s k a=some a
  unfold stB
  rw[h k];rfl
theorem Aim {a0:Option (Nat×Nat)} {a:Nat×Nat} {t:Nat} (h:rowB D P v s a0 t=some a) (ho:QM D v s t=true):rowB D P v s a0 (t+1)=addN a (shr P v s t):=by
 show(rowB D P v s a0 t).bind _=_
 rw[h]
 show stB D P v s t a=_
 unfold stB
 rw[if_pos ho]
theorem Af2 {a0:Option (Nat×Nat)} {a:Nat×Nat} {t:Nat} (h:rowB D P v s a0 t=some a) (ho:QM D v s t=false):rowB D P v s a0 (t+1)=some a:=by
 show(rowB D P v s a0 t).bind _=_
 rw[h]
 show stB D P v s t a=_
 unfold stB
 rw[ho];rfl
theorem Af3 {l:List (Nat×Nat)} {t:Nat} (hv:v<n) (hs:s<n) (ht:t≤n) (hl:WU D P n v=some l) (h:rowB D P v s (allB D P n v s) t=none):WU D P n n=none:=by
 have h1:allB D P n v (s+1)=none:=Vb h ht
 have h2:allB D P n v n=none:=Vd h1 (by omega)
 refine XZ (k:=v+1) ?_ (by omega)
 show(WU D P n v).bind _=none
 rw[hl]
 show(allB D P n v n).map _=none
 rw[h2];rfl
theorem Af4 {l:List (Nat×Nat)} {a:Nat×Nat} (hl:WU D P n v=some l) (h:allB D P n v n=some a):WU D P n (v+1)=some (l++[a]):=by
 show(WU D P n v).bind _=_
 rw[hl]
 show(allB D P n v n).map _=_
 rw[h];rfl
end
theorem Aio {A:Nat→Nat→Bool} {n v s t:Nat} {z:Nat×Nat} (hn:n≤12) (hv:v<n) (hs:s<n) (ht:t≤n) (h:rowB (JC A n) (Gu A n) v s (allB (JC A n) (Gu A n) n v s) t=some z):Q9 z:=by
 obtain⟨N,hN,hd⟩:=J3 4096
 have hG:=NJ (A:=A) hN hd hn
 cases ha:allB (JC A n) (Gu A n) n v s with
 |none=>rw[ha,MJ]at h;cases h
 |some a=>
  rw[ha]at h
  obtain⟨k1,k2⟩:=VW hG hv (by omega) ha
  exact(Wu hG hv hs k1 k2 ht h).1
theorem Aev {A:Nat→Nat→Bool} {n v s t:Nat} (hn:n≤12) (hv:v<n) (hs:s<n) (ht:t<n) (ho:QM (JC A n) v s t=true):Q9 (shr (Gu A n) v s t)∧0<(shr (Gu A n) v s t).1∧(shr (Gu A n) v s t).1≤4096∧(shr (Gu A n) v s t).2≤4096∧0<Gu A n s t∧Gu A n s t≤4096∧Gu A n s v*Gu A n v t≤4096:=by
 obtain⟨N,hN,hd⟩:=J3 4096
 have hG:=NJ (A:=A) hN hd hn
 obtain⟨h1,h2,h3,h4⟩:=hG.shr hv hs ht ho
 obtain⟨k1,k2,_,k4⟩:=hG.div v s t hv hs ht ho
 obtain⟨a,b,d1,d2,d3⟩:=X0 hv hs ht ho
 have hp:0<Gu A n s v*Gu A n v t:=Nat.mul_pos (Rk hs hv d1) (Rk hv ht d2)
 obtain⟨q1,q2,_⟩:=Va (a:=Gu A n s v*Gu A n v t) k1
 refine⟨h1,?_,h2,h3,k1,k2,by omega⟩
 have:0<(QL (Gu A n s v*Gu A n v t) (Gu A n s t)).2*(Gu A n s v*Gu A n v t):=Nat.mul_pos q2 hp
 rw[← q1]at this
 exact Nat.pos_of_mul_pos_right this
def KQ (n:Nat) (F:Nat→AV):List AV:=(List.range n).map F
theorem Rx {n:Nat} {F:Nat→AV}:(KQ n F).length=n:=by simp[KQ]
theorem MQ {n:Nat} {F:Nat→AV} {k:Nat} (h:k<n):nth (KQ n F) (Int.toNat (Nat.cast k))=some (F k):=by
 rw[show Int.toNat (Nat.cast k)=k from rfl,Ar]
 simp[KQ,h]
theorem AaX {n:Nat} {F:Nat→AV} {k:Nat} {x:AV}:(KQ n F).set (Int.toNat (Nat.cast k)) x=KQ n (UK F k x):=by
 apply List.ext_getElem
 ·simp[KQ]
 ·intro i h1 h2
  show((KQ n F).set k x)[i]'h1=_
  rw[List.getElem_set]
  simp only[KQ,List.getElem_map,List.getElem_range]
  unfold UK
  by_cases e:k=i
  ·rw[if_pos e,if_pos e.symm]
  ·rw[if_neg e,if_neg fun h=>e h.symm]
theorem Vw {n:Nat} {F G:Nat→AV} (h:∀i,i<n→F i=G i):KQ n F=KQ n G:=List.map_congr_left fun i hi=>h i (List.mem_range.1 hi)
theorem Af5 {n:Nat} {x:AV}:List.replicate n x=KQ n fun _=>x:=by
 apply List.ext_getElem
 ·simp[KQ]
 ·intro i h1 h2
  simp[KQ]
theorem QI:∀l:List Int,I4 (ints l) (ints l)=true
 |[]=>rfl
 |x::l=>by
  show(Bc (.int .i64 x) (.int .i64 x)&&I4 (ints l) (ints l))=true
  rw[AaG,QI l];rfl
theorem Aew {b:Bool} {l:List Int}:Bc (.sl b (ints l)) (.sl b (ints l))=true:=by simp[Bc,QI]
theorem Aex {k:IntKind} {x:Int}:Bc (.CB [.int k x]) (.CB [.int k x])=true:=by simp[Bc,I4]
theorem Aey {o g i n:Nat}:Bc (.ref o g i n) (.ref o g i n)=true:=by simp[Bc]
def Xv (p:Int×(Nat×Nat)):AV:=.agg [.int .i64 p.1,.int .i64 p.2.1,.int .i64 p.2.2]
theorem Af6 (p:Int×(Nat×Nat)):(Xv p).cells.length=3:=rfl
def btW (ids:List Int) (n:Nat) (o:Option (List (Nat×Nat))):AV:=match o with
 |some l=>.CP [.sl (decide (0<n)) (vs Xv (ids.zip l)),.int .i64 0]
 |none=>.CP [.sl false [],.int .i64 24]
noncomputable def btG (types:List (List UInt8)) (g:GG):AV:=
 if Bo g=0 then btW (BK g) g.nodes.length (WU (JC (Cc types g) g.nodes.length) (Gu (Cc types g) g.nodes.length) g.nodes.length g.nodes.length)else .CP [.sl false [],.int .i64 (Bo g)]
def Qg (n:Nat) (D:Nat→Nat→Int) (q:Nat):AV:=.sl true (ints (Gl n (D q)))
def rowP (n:Nat) (P:Nat→Nat→Nat) (q:Nat):AV:=.sl true (ints (Gl n fun v=>(P q v:Int)))
def Af7 (gv nv:AV) (X Y:List AV) (r:List Obj):List Obj:=.arr 0 4 true true [gv]::.arr 1 2 true true [nv]::.arr 2 1 true true X::.arr 3 1 true true Y::r
set_option maxHeartbeats 8000000 in
theorem Ac5 {g:GG} (hg:g.ok) (hN:g.nodes.length≤12) (hE:g.edges.length≤1000) {types:List (List UInt8)} {tn:Bool} (ht:types.length<2^63):Ah (Ac tab) 11 [g.av,.sl tn (vs .str types)] (· =btG types g):=by
 have pk:=YM hg
 unfold btG
 by_cases hck:Bo g=0
 case neg=>
  rw[if_neg hck]
  generalize Bo g=e0 at pk hck
  refine Ae rfl rfl ?_
  (conv=>whnf);repeat' (first|(refine Aa pk ?_;rintro _ rfl;conv=>whnf)|(refine kA ?_;conv=>whnf)|(refine Br.mk (fun hc=>?_) fun hc=>?_<;>first|exact hc.elim|conv=>whnf)|(refine kB ?_))
  all_goals first|rfl|(exfalso;omega)
 have pb:=AgN hg (by omega) hE hck (types:=types) (tn:=tn) ht
 rw[hck]at pk
 rw[if_pos hck]
 have pr:∀q,q<g.nodes.length→_:=fun q hq=>Ag1 (ids:=BK g) (A:=Cc types g) (DF g) hN hq
 have hvn:∀{v s t:Nat} {z:Nat×Nat},v<g.nodes.length→s<g.nodes.length→t≤g.nodes.length→_→Q9 z:=fun{v s t z} h1 h2 h3 h=>Aio (A:=Cc types g) hN h1 h2 h3 h
 have hsm:∀{v s t:Nat},v<g.nodes.length→s<g.nodes.length→t<g.nodes.length→_→_:=fun{v s t} h1 h2 h3 h=>Aev (A:=Cc types g) hN h1 h2 h3 h
 have Xf:=DF g
 have hDb:∀{u w:Nat},u<g.nodes.length→w<g.nodes.length→-1≤JC (Cc types g) g.nodes.length u w∧JC (Cc types g) g.nodes.length u w<g.nodes.length:=fun{u w} h1 h2=>⟨Ahv,YZ h1 h2⟩
 have hnv:AeJ (BK g) (Cc types g) g.nodes.length=.agg [.sl (decide (0<g.nodes.length)) (ints (BK g)),.sl true (vs UH ((List.range g.nodes.length).map (Ny (Cc types g) g.nodes.length)))]:=rfl
 rw[hnv]at pb
 simp only[hnv]at pr
 clear hnv
 generalize JC (Cc types g) g.nodes.length=D at*
 generalize Gu (Cc types g) g.nodes.length=P at*
 generalize vs UH ((List.range g.nodes.length).map (Ny (Cc types g) g.nodes.length))=RW at pb pr
 refine Ae rfl rfl ?_
 (conv=>whnf);repeat' (first|((first|refine Aa pk ?_|refine Aa pb ?_);rintro _ rfl;conv=>whnf)|(refine kA ?_;conv=>whnf)|(refine Br.mk (fun hc=>?_) fun hc=>?_<;>first|exact hc.elim|conv=>whnf)|(refine kB ?_))
 all_goals first|(exfalso;omega)|skip
 rw[Xf,Af5]
 refine Aj (fun m env s=>∃(k c:Nat) (F G:Nat→AV),m=g.nodes.length-k∧k≤g.nodes.length∧(∀ q,q<k→F q=Qg g.nodes.length D q)∧(∀ q,q<k→G q=rowP g.nodes.length P q)∧(∀ q,k≤q→F q=.sl false [])∧(∀ q,k≤q→G q=.sl false [])∧env=[(7,.ref 1 1 0 0),(8,.own 2 2 0 g.nodes.length),(9,.own 3 3 0 g.nodes.length),(39,.int .i64 g.nodes.length),(40,.int .i64 k)]∧s=⟨Af7 g.av (.agg [.sl (decide (0<g.nodes.length)) (ints (BK g)),.sl true RW]) (KQ g.nodes.length F) (KQ g.nodes.length G) [],c⟩) ?_ _ _ _ ⟨0,_,_,_,rfl,by omega,fun q h=>by omega,fun q h=>by omega,fun q h=>rfl,fun q h=>rfl,rfl,rfl⟩
 rintro _ _ _ ⟨k,c,F,G,rfl,hk,hF,hG,hF0,hG0,rfl,rfl⟩
 refine⟨rfl,?_⟩
 by_cases hkl:k<g.nodes.length
 ·have pq:=pr k hkl
  have nF:nth (KQ g.nodes.length F) (Int.toNat (Nat.cast k))=some (.sl false []):=by rw[MQ hkl,hF0 k (Nat.le_refl k)]
  have nG:nth (KQ g.nodes.length G) (Int.toNat (Nat.cast k))=some (.sl false []):=by rw[MQ hkl,hG0 k (Nat.le_refl k)]
  have lF:=Rx (n:=g.nodes.length) (F:=F)
  have lG:=Rx (n:=g.nodes.length) (F:=G)
  have eF:(KQ g.nodes.length F).set (Int.toNat (Nat.cast k)) (Bz (.sl false []) 0 (.sl true (ints (Gl g.nodes.length (D k)))))=KQ g.nodes.length (UK F k (Qg g.nodes.length D k)):=AaX
  have eG:(KQ g.nodes.length G).set (Int.toNat (Nat.cast k)) (Bz (.sl false []) 0 (.sl true (ints (Gl g.nodes.length fun v=>(P k v:Int)))))=KQ g.nodes.length (UK G k (rowP g.nodes.length P k)):=AaX
  (conv=>whnf);repeat' (first|(refine Aa pq ?_;rintro _ rfl;conv=>whnf)|(refine Au nF ?_;conv=>whnf)|(refine Au nG ?_;conv=>whnf)|(refine A8 eF ?_;conv=>whnf)|(refine A8 eG ?_;conv=>whnf)|(refine kA ?_;conv=>whnf)|(refine Br.mk (fun hc=>?_) fun hc=>?_<;>first|exact hc.elim|conv=>whnf)|(refine kB ?_))
  all_goals first
   |(exfalso;omega)
   |(refine again.mk ⟨_,by omega,k+1,_,_,_,rfl,by omega,fun q hq=>?_,fun q hq=>?_,fun q hq=>?_,fun q hq=>?_,rfl,rfl⟩
     ·by_cases e:q=k
      ·rw[e,La]
      ·rw[Gv e];exact hF q (by omega)
     ·by_cases e:q=k
      ·rw[e,La]
      ·rw[Gv e];exact hG q (by omega)
     ·rw[Gv (by omega)];exact hF0 q (by omega)
     ·rw[Gv (by omega)];exact hG0 q (by omega))
 obtain rfl:k=g.nodes.length:=by omega
 have eF:KQ g.nodes.length F=KQ g.nodes.length (Qg g.nodes.length D):=Vw fun q hq=>hF q hq
 have eG:KQ g.nodes.length G=KQ g.nodes.length (rowP g.nodes.length P):=Vw fun q hq=>hG q hq
 rw[eF,eG]
 clear eF eG hF hG hF0 hG0 F G hk hkl pr pb pk
 have lX:=Rx (n:=g.nodes.length) (F:=Qg g.nodes.length D)
 have lY:=Rx (n:=g.nodes.length) (F:=rowP g.nodes.length P)
 (conv=>whnf);repeat' (first  |(refine kA ?_;conv=>whnf)|(refine Br.mk (fun hc=>?_) fun hc=>?_<;>first|exact hc.elim|conv=>whnf)|(refine kB ?_))
 all_goals first|(exfalso;omega)|skip
 rw[Xf]
 refine Aj (fun m env s=>∃(v c gO:Nat) (l:List (Nat×Nat)),m=g.nodes.length-v∧v≤g.nodes.length∧WU D P g.nodes.length v=some l∧env=[(7,.ref 1 1 0 0),(8,.own 2 2 0 g.nodes.length),(9,.own 3 3 0 g.nodes.length),(12,.own 4 gO 0 v),(60,.sl (decide (0<g.nodes.length)) (ints (BK g))),(61,.int .i64 g.nodes.length),(62,.int .i64 v)]∧s=⟨Af7 g.av (.agg [.sl (decide (0<g.nodes.length)) (ints (BK g)),.sl true RW]) (KQ g.nodes.length (Qg g.nodes.length D)) (KQ g.nodes.length (rowP g.nodes.length P)) [.arr gO 3 (decide (0<v)) true (vs Xv (((BK g).take v).zip l))],c⟩) ?_ _ _ _ ⟨0,_,_,[],rfl,by omega,rfl,rfl,rfl⟩
 rintro _ _ _ ⟨v,c,gO,l,rfl,hv,hl,rfl,rfl⟩
 refine⟨rfl,?_⟩
 have hll:=OE hl
 have hzl:(((BK g).take v).zip l).length=v:=by rw[List.length_zip,List.length_take];omega
 by_cases hvl:v<g.nodes.length
 case neg=>
  obtain rfl:v=g.nodes.length:=by omega
  rw[List.take_of_length_le (by omega)]at hzl ⊢
  rw[hl]
  unfold btW
  have hsv:sub (vs Xv ((BK g).zip l)) 0 g.nodes.length=vs Xv ((BK g).zip l):=by
   have:sub (vs Xv ((BK g).zip l)) 0 ((BK g).zip l).length=vs Xv ((BK g).zip l):=uV
   rwa [hzl]at this
  (conv=>whnf);repeat' (first|(refine Ap ⟨rfl,by rw[lV];omega⟩ ?_;conv=>whnf)|(refine A8 hsv ?_;conv=>whnf)|(refine kA ?_;conv=>whnf)|(refine Br.mk (fun hc=>?_) fun hc=>?_<;>first|exact hc.elim|conv=>whnf)|(refine kB ?_))
  all_goals first|(exfalso;omega)|rfl
 have hvi:v<(BK g).length:=by omega
 have nVd:nth (KQ g.nodes.length (Qg g.nodes.length D)) (Int.toNat (Nat.cast v))=some (Qg g.nodes.length D v):=MQ hvl
 have nVp:nth (KQ g.nodes.length (rowP g.nodes.length P)) (Int.toNat (Nat.cast v))=some (rowP g.nodes.length P v):=MQ hvl
 unfold Qg at nVd
 unfold rowP at nVp
 have lT:∀f:Nat→Int,(Gl g.nodes.length f).length=g.nodes.length:=fun f=>VP
 (conv=>whnf);repeat' (first  |(refine kA ?_;conv=>whnf)|(refine Br.mk (fun hc=>?_) fun hc=>?_<;>first|exact hc.elim|conv=>whnf)|(refine kB ?_))
 all_goals first|(exfalso;omega)|skip
 refine Aj (fun m env st=>∃(s c gS:Nat) (a:Nat×Nat),m=g.nodes.length-s∧s≤g.nodes.length∧allB D P g.nodes.length v s=some a∧env=[(7,.ref 1 1 0 0),(8,.own 2 2 0 g.nodes.length),(9,.own 3 3 0 g.nodes.length),(12,.own 4 gO 0 v),(13,.int .i64 v),(14,.int .i64 (BK g)[v]),(15,.ref 5 gS 0 0),(60,.sl (decide (0<g.nodes.length)) (ints (BK g))),(61,.int .i64 g.nodes.length),(62,.int .i64 v),(70,.int .i64 g.nodes.length),(71,.int .i64 s)]∧st=⟨Af7 g.av (.agg [.sl (decide (0<g.nodes.length)) (ints (BK g)),.sl true RW]) (KQ g.nodes.length (Qg g.nodes.length D)) (KQ g.nodes.length (rowP g.nodes.length P)) [.arr gO 3 (decide (0<v)) true (vs Xv (((BK g).take v).zip l)),.arr gS 2 true true [fv a]],c⟩) ?_ _ _ _ ⟨0,_,_,(0,1),rfl,by omega,rfl,by rw[← Xf];first|rfl|(rw [Xf];rfl),rfl⟩
 rintro _ _ _ ⟨s,c,gS,a,rfl,hs,ha,rfl,rfl⟩
 refine⟨rfl,?_⟩
 by_cases hsl:s<g.nodes.length
 case neg=>
  obtain rfl:s=g.nodes.length:=by omega
  have hl':=Af4 hl ha
  have hsn:((BK g).take (v+1)).zip (l++[a])=((BK g).take v).zip l++[((BK g)[v],a)]:=by
   rw[List.take_succ_eq_append_getElem hvi,List.zip_append (by rw[List.length_take];omega)];rfl
  (conv=>whnf);repeat' (first|(refine Um (f:=Xv) (l:=((BK g).take v).zip l) (x:=((BK g)[v],a)) Af6 (by omega) (by omega) ?_;conv=>whnf)|(refine kA ?_;conv=>whnf)|(refine Br.mk (fun hc=>?_) fun hc=>?_<;>first|exact hc.elim|conv=>whnf)|(refine kB ?_))
  all_goals first
   |(exfalso;omega)
   |(rw [hzl,←hsn];exact again.mk ⟨_,by omega,v+1,_,_,l++[a],rfl,by omega,hl',rfl,by rw[decide_eq_true (show 0<v+1 by omega)];rfl⟩)
 have nSd:nth (KQ g.nodes.length (Qg g.nodes.length D)) (Int.toNat (Nat.cast s))=some (Qg g.nodes.length D s):=MQ hsl
 have nSp:nth (KQ g.nodes.length (rowP g.nodes.length P)) (Int.toNat (Nat.cast s))=some (rowP g.nodes.length P s):=MQ hsl
 unfold Qg at nSd
 unfold rowP at nSp
 have lDs:=lT (D s)
 have lDv:=lT (D v)
 have AoP:(Gl g.nodes.length (D s))[v]'(by rw[lT];exact hvl)=D s v:=D8 _
 have AgJ:allB D P g.nodes.length v (s+1)=rowB D P v s (some a) g.nodes.length:=by rw[← ha];rfl
 by_cases I7:s=v∨D s v<0
 ·have hoff:∀t,QM D v s t=false:=fun t=>by
   unfold QM
   rcases I7 with h|h
   ·simp[h]
   ·have:¬0≤D s v:=by omega
    simp[this]
  rw[Yv hoff]at AgJ
  (conv=>whnf);repeat' (first|(refine Au nSd ?_;conv=>whnf)|(refine kA ?_;conv=>whnf)|(refine Br.mk (fun hc=>?_) fun hc=>?_<;>first|exact hc.elim|conv=>whnf)|(refine kB ?_))
  all_goals first
   |(exfalso;omega)
   |exact again.mk ⟨_,by omega,s+1,_,_,a,rfl,by omega,AgJ,rfl,rfl⟩
 have AmK:s≠v:=fun h=>I7 (.inl h)
 have AmL:0≤D s v:=by
  by_cases h:0≤D s v
  ·exact h
  ·exact absurd (.inr (by omega)) I7
 (conv=>whnf);repeat' (first|(refine Au nSd ?_;conv=>whnf)|(refine kA ?_;conv=>whnf)|(refine Br.mk (fun hc=>?_) fun hc=>?_<;>first|exact hc.elim|conv=>whnf)|(refine kB ?_))
 all_goals first|(exfalso;omega)|skip
 refine Aj (fun m env st=>∃(t c gS:Nat) (a2:Nat×Nat),m=g.nodes.length-t∧t≤g.nodes.length∧rowB D P v s (allB D P g.nodes.length v s) t=some a2∧env=[(7,.ref 1 1 0 0),(8,.own 2 2 0 g.nodes.length),(9,.own 3 3 0 g.nodes.length),(12,.own 4 gO 0 v),(13,.int .i64 v),(14,.int .i64 (BK g)[v]),(15,.ref 5 gS 0 0),(16,.int .i64 s),(60,.sl (decide (0<g.nodes.length)) (ints (BK g))),(61,.int .i64 g.nodes.length),(62,.int .i64 v),(70,.int .i64 g.nodes.length),(71,.int .i64 s),(89,.int .i64 g.nodes.length),(90,.int .i64 t)]∧st=⟨Af7 g.av (.agg [.sl (decide (0<g.nodes.length)) (ints (BK g)),.sl true RW]) (KQ g.nodes.length (Qg g.nodes.length D)) (KQ g.nodes.length (rowP g.nodes.length P)) [.arr gO 3 (decide (0<v)) true (vs Xv (((BK g).take v).zip l)),.arr gS 2 true true [fv a2]],c⟩) ?_ _ _ _ ⟨0,_,_,a,rfl,by omega,ha,by rw[← Xf];first|rfl|(rw [Xf];rfl),rfl⟩
 rintro _ _ _ ⟨t,c,gS,a2,rfl,ht,hr,rfl,rfl⟩
 refine⟨rfl,?_⟩
 by_cases htl:t<g.nodes.length
 case neg=>
  obtain rfl:t=g.nodes.length:=by omega
  have Akp:allB D P g.nodes.length v (s+1)=some a2:=hr
  (conv=>whnf);repeat' (first  |(refine kA ?_;conv=>whnf)|(refine Br.mk (fun hc=>?_) fun hc=>?_<;>first|exact hc.elim|conv=>whnf)|(refine kB ?_))
  all_goals first
   |(exfalso;omega)
   |exact again.mk ⟨_,by omega,s+1,_,_,a2,rfl,by omega,Akp,rfl,rfl⟩
 have AoQ:(Gl g.nodes.length (D v))[t]'(by rw[lT];exact htl)=D v t:=D8 _
 have AoR:(Gl g.nodes.length (D s))[t]'(by rw[lT];exact htl)=D s t:=D8 _
 obtain⟨b1,b2⟩:=hDb hsl hvl
 obtain⟨b3,b4⟩:=hDb hvl htl
 obtain⟨b5,b6⟩:=hDb hsl htl
 by_cases ho:QM D v s t=true
 case neg=>
  have ho':QM D v s t=false:=Bool.eq_false_iff.2 ho
  have hoff:s=t∨t=v∨D v t<0∨D s t≠D s v+D v t:=by
   by_cases h1:s=t
   ·exact .inl h1
   by_cases h2:t=v
   ·exact .inr (.inl h2)
   by_cases h3:D v t<0
   ·exact .inr (.inr (.inl h3))
   by_cases h4:D s t=D s v+D v t
   ·exfalso
    apply ho
    unfold QM
    simp[h1,h2,AmK,AmL,h4,show 0≤D v t by omega]
   ·exact .inr (.inr (.inr h4))
  have hr':=Af2 hr ho'
  (conv=>whnf);repeat' (first|(refine Au nSd ?_;conv=>whnf)|(refine Au nVd ?_;conv=>whnf)|(refine kA ?_;conv=>whnf)|(refine Br.mk (fun hc=>?_) fun hc=>?_<;>first|exact hc.elim|conv=>whnf)|(refine kB ?_))
  all_goals first
   |(exfalso;omega)
   |exact again.mk ⟨_,by omega,t+1,_,_,a2,rfl,by omega,hr',rfl,rfl⟩
 have hon:=ho
 unfold QM at hon
 simp only[Bool.and_eq_true,decide_eq_true_eq]at hon
 obtain⟨⟨⟨⟨⟨o1,o2⟩,o3⟩,o4⟩,o5⟩,o6⟩:=hon
 obtain⟨q1,q2,q3,q4,q5,q6,q7⟩:=hsm hvl hsl htl ho
 have hVa:=hvn hvl hsl (by omega) hr
 have pA:=AjY hVa q1 q2 q3 q4
 have hr':=Aim hr ho
 have lPs:=lT (fun w=>(P s w:Int))
 have lPv:=lT (fun w=>(P v w:Int))
 have hprod:(Gl g.nodes.length (fun w=>(P s w:Int)))[v]'(by rw[lT];exact hvl)*(Gl g.nodes.length (fun w=>(P v w:Int)))[t]'(by rw[lT];exact htl)=((P s v*P v t:Nat):Int):=by
  rw[D8,D8,Int.natCast_mul]
 have Akq:(Gl g.nodes.length (fun w=>(P s w:Int)))[t]'(by rw[lT];exact htl)=((P s t:Nat):Int):=D8 _
 have pO:=ofP (a:=P s v*P v t) (b:=P s t) (by unfold Hg;omega) (by unfold Hg;omega) q5
 have AmM:QL (P s v*P v t) (P s t)=shr P v s t:=rfl
 rw[AmM]at pO
 generalize P s v*P v t=pp at*
 generalize P s t=pt at*
 generalize shr P v s t=X at*
 unfold fv at pA pO
 cases hA:addN a2 X with
 |none=>
  rw[hA]at pA hr'
  have hno:=Af3 hvl hsl (show t+1≤g.nodes.length by omega) hl hr'
  rw[hno]
  unfold UQ fv at pA
  unfold btW
  (conv=>whnf);repeat' (first|(refine Au nSd ?_;conv=>whnf)|(refine Au nVd ?_;conv=>whnf)|(refine Au nSp ?_;conv=>whnf)|(refine Au nVp ?_;conv=>whnf)|(rw [hprod];conv=>whnf)|(rw [Akq];conv=>whnf)|((first|refine Aa pO ?_|refine Aa pA ?_);rintro _ rfl;conv=>whnf)|(refine Ap AaG ?_;conv=>whnf)|(refine Ap Jw ?_;conv=>whnf)|(refine Ap Aew ?_;conv=>whnf)|(refine Ap Aex ?_;conv=>whnf)|(refine Ap Aey ?_;conv=>whnf)|(refine kA ?_;conv=>whnf)|(refine Br.mk (fun hc=>?_) fun hc=>?_<;>first|exact hc.elim|conv=>whnf)|(refine kB ?_))
  all_goals first
   |(exfalso;omega)
   |rfl
 |some z=>
  rw[hA]at pA hr'
  unfold UQ fv at pA
  (conv=>whnf);repeat' (first|(refine Au nSd ?_;conv=>whnf)|(refine Au nVd ?_;conv=>whnf)|(refine Au nSp ?_;conv=>whnf)|(refine Au nVp ?_;conv=>whnf)|(rw [hprod];conv=>whnf)|(rw [Akq];conv=>whnf)|((first|refine Aa pO ?_|refine Aa pA ?_);rintro _ rfl;conv=>whnf)|(refine Ap AaG ?_;conv=>whnf)|(refine Ap Jw ?_;conv=>whnf)|(refine Ap Aew ?_;conv=>whnf)|(refine Ap Aex ?_;conv=>whnf)|(refine Ap Aey ?_;conv=>whnf)|(refine kA ?_;conv=>whnf)|(refine Br.mk (fun hc=>?_) fun hc=>?_<;>first|exact hc.elim|conv=>whnf)|(refine kB ?_))
  all_goals first
   |(exfalso;omega)
   |exact again.mk ⟨_,by omega,t+1,_,_,z,rfl,by omega,hr',rfl,rfl⟩
section
variable (A:Nat→Nat→Bool) (n:Nat)
structure Vu (i d:Nat) (Q:Nat→Prop) (nx SL:List Nat):Prop where
 nd:nx.Nodup
 mem:∀w,w∈nx↔w<n∧KZ A n i d w∧Q w
 sl:∀w,w∈SL↔w<n∧(¬ KZ A n i d w∨w∈nx)
 sn:SL.Nodup
def exS (i:Nat) (SL:List Nat):Nat:=sg n fun w=>if w∈SL then PE A n i w else 0
variable {A:Nat→Nat→Bool} {n i d:Nat} {Q Q':Nat→Prop} {nx SL L:List Nat}
theorem Vu.start (hi:i<n):Vu A n i 0 (fun _=>False) [] [i]:=by
 refine⟨.nil,fun w=>by simp,fun w=>?_,by simp⟩
 rw[List.mem_singleton]
 constructor
 ·rintro rfl
  exact⟨hi,.inl fun h=>h 0 (Nat.le_refl 0) (Gf.2 rfl)⟩
 ·rintro⟨_,h|h⟩
  ·obtain⟨e,he,hd⟩:=AcL h
   obtain rfl:e=0:=by omega
   exact Gf.1 hd
  ·cases h
theorem Vu.congr (h:Vu A n i d Q nx SL) (hQ:∀w,w<n→(Q w↔Q' w)):Vu A n i d Q' nx SL:=
 ⟨h.nd,fun w=>by
  rw[h.mem]
  exact⟨fun ⟨a,b,c⟩=>⟨a,b,(hQ w a).1 c⟩,fun⟨a,b,c⟩=>⟨a,b,(hQ w a).2 c⟩⟩,h.sl,h.sn⟩
theorem Vu.old (h:Vu A n i d Q nx SL) {v:Nat} (hv:v∈SL):Vu A n i d (fun w=>Q w∨w=v) nx SL:=
 ⟨h.nd,fun w=>by
  constructor
  ·intro hw
   obtain⟨a,b,c⟩:=(h.mem w).1 hw
   exact⟨a,b,.inl c⟩
  ·rintro⟨a,b,c|rfl⟩
   ·exact(h.mem w).2 ⟨a,b,c⟩
   ·rcases((h.sl w).1 hv).2 with h1|h1
    ·exact absurd b h1
    ·exact h1,h.sl,h.sn⟩
theorem Vu.new (h:Vu A n i d Q nx SL) {v:Nat} (hvn:v<n) (hv:v∉SL):KZ A n i d v∧Vu A n i d (fun w=>Q w∨w=v) (nx++[v]) (SL++[v]):=by
 have hf:KZ A n i d v:=Classical.byContradiction fun hn=>hv ((h.sl v).2 ⟨hvn,.inl hn⟩)
 have hnx:v∉nx:=fun hm=>hv ((h.sl v).2 ⟨hvn,.inr hm⟩)
 have nd2:∀{l:List Nat},l.Nodup→v∉l→(l++[v]).Nodup:=fun{l} h1 h2=>List.nodup_append.2 ⟨h1,by simp,fun a ha b hb e=>h2 (by rw[← List.mem_singleton.1 hb,←e];exact ha)⟩
 refine⟨hf,nd2 h.nd hnx,fun w=>?_,fun w=>?_,nd2 h.sn hv⟩
 ·rw[List.mem_append,h.mem,List.mem_singleton]
  constructor
  ·rintro(⟨a,b,c⟩|rfl)
   ·exact⟨a,b,.inl c⟩
   ·exact⟨hvn,hf,.inr rfl⟩
  ·rintro⟨a,b,c|c⟩
   ·exact .inl ⟨a,b,c⟩
   ·exact .inr c
 ·rw[List.mem_append,h.sl,List.mem_singleton,List.mem_append,List.mem_singleton]
  constructor
  ·rintro(⟨a,b|b⟩|rfl)
   ·exact⟨a,.inl b⟩
   ·exact⟨a,.inr (.inl b)⟩
   ·exact⟨hvn,.inr (.inr rfl)⟩
  ·rintro⟨a,b|b|b⟩
   ·exact .inl ⟨a,.inl b⟩
   ·exact .inl ⟨a,.inr b⟩
   ·exact .inr b
theorem Af1 {v:Nat} (hvn:v<n) (hv:v∉SL) (hd:Ds A n i v (d+1)) (hi:i<n):exS A n i (SL++[v])=exS A n i SL+d:=by
 have he:PE A n i v=d:=by unfold PE;rw[(Ia hi hvn).2 hd];omega
 unfold exS
 rw[← he,←XE (f:=PE A n i) hvn,←V7]
 refine CV fun w hw=>?_
 by_cases e:w=v
 ·subst e;simp[hv]
 ·simp[e]
theorem Ail (hi:i<n):exS A n i SL≤n*n:=by
 have h:=Jf (n:=n) (f:=fun w=>if w∈SL then PE A n i w else 0) (g:=fun _=>n) fun w hw=>by
  split
  ·unfold PE
   have:=YZ (A:=A) hi hw
   omega
  ·exact Nat.zero_le _
 rw[G5]at h
 exact h
theorem Vu.next (hL:Xm A n i d L) (h:Vu A n i d (fun w=>∃u∈L,A u w=true) nx SL):Xm A n i (d+1) nx∧Vu A n i (d+1) (fun _=>False) [] SL:=by
 have key:∀w,w∈nx↔w<n∧Ds A n i w (d+1):=fun w=>by
  rw[h.mem,J8]
  constructor
  ·rintro⟨a,b,u,hu,ha⟩
   obtain⟨h1,h2⟩:=(hL.2 u).1 hu
   exact⟨a,b,u,h1,ha,h2⟩
  ·rintro⟨a,b,u,h1,ha,h2⟩
   exact⟨a,b,u,(hL.2 u).2 ⟨h1,h2⟩,ha⟩
 refine⟨⟨h.nd,key⟩,.nil,fun w=>by simp,fun w=>?_,h.sn⟩
 rw[h.sl,key]
 constructor
 ·rintro⟨a,b|⟨_,b⟩⟩
  ·exact⟨a,.inl fun hf=>b fun e he=>hf e (by omega)⟩
  ·exact⟨a,.inl fun hf=>hf (d+1) (Nat.le_refl _) b⟩
 ·rintro⟨a,b|b⟩
  ·obtain⟨e,he,hd⟩:=AcL b
   by_cases e1:e=d+1
   ·subst e1;exact⟨a,.inr ⟨a,hd⟩⟩
   ·exact⟨a,.inl fun hf=>hf e (by omega) hd⟩
  ·cases b
theorem Vu.done (hi:i<n) (hL:Xm A n i d []) (h:Vu A n i d (fun _=>False) [] SL):exS A n i SL=sg n (PE A n i):=by
 refine CV fun w hw=>?_
 by_cases hm:w∈SL
 ·rw[if_pos hm]
 ·rw[if_neg hm]
  have hf:KZ A n i d w:=Classical.byContradiction fun hn=>hm ((h.sl w).2 ⟨hw,.inl hn⟩)
  have:JC A n i w=-1:=(Rj hi hw).2 fun e he=>by
   by_cases h1:e≤d
   ·exact hf e h1 he
   ·obtain⟨u,hu,hd⟩:=Rh hw he d (by omega)
    exact absurd ((hL.2 u).2 ⟨hu,hd⟩) (by simp)
  unfold PE
  rw[this];rfl
end
theorem AmD {l:List Int} {b:Bool} {x:Int} (hl:l.length<2^62):Ah (Ac tab) 49 [.sl b (ints l),.int .i64 x] (· =.bool (decide (x∈l))):=by
 refine Ae rfl rfl ?_
 (conv=>whnf);repeat' (first  |(refine kA ?_;conv=>whnf)|(refine Br.mk (fun hc=>?_) fun hc=>?_<;>first|exact hc.elim|conv=>whnf)|(refine kB ?_))
 refine Aj (fun m env s=>∃i:Nat,m=l.length-i∧env=[(1,.int .i64 x),(7,.sl b (ints l)),(8,.int .i64 l.length),(9,.int .i64 i)]∧s=⟨[],0⟩∧x∉l.take i) ?_ _ _ _ ⟨0,rfl,rfl,rfl,by simp⟩
 rintro _ _ _ ⟨i,rfl,rfl,rfl,hx⟩
 refine⟨rfl,?_⟩
 by_cases hlt:i<l.length
 ·by_cases he:l[i]=x
  ·(conv=>whnf);repeat' (first  |(refine kA ?_;conv=>whnf)|(refine Br.mk (fun hc=>?_) fun hc=>?_<;>first|exact hc.elim|conv=>whnf)|(refine kB ?_))
   all_goals first
        |(exfalso;omega)
        |exact BP (he▸List.getElem_mem hlt)
  ·(conv=>whnf);repeat' (first  |(refine kA ?_;conv=>whnf)|(refine Br.mk (fun hc=>?_) fun hc=>?_<;>first|exact hc.elim|conv=>whnf)|(refine kB ?_))
   all_goals first
        |(exfalso;omega)
        |exact again.mk ⟨_,by omega,i+1,rfl,rfl,rfl,by
          rw[List.take_succ_eq_append_getElem hlt,List.mem_append,List.mem_singleton]
          rintro(h|h)
          ·exact hx h
          ·exact he h.symm⟩
 ·rw[List.take_of_length_le (by omega)]at hx
  (conv=>whnf);repeat' (first  |(refine kA ?_;conv=>whnf)|(refine Br.mk (fun hc=>?_) fun hc=>?_<;>first|exact hc.elim|conv=>whnf)|(refine kB ?_))
  all_goals first|(exfalso;omega)|exact Bf hx
set_option maxHeartbeats 8000000 in
theorem Ahe {g:GG} (hg:g.ok) (hN:g.nodes.length≤12) (hE:g.edges.length≤1000) (hck:Bo g=0) {types:List (List UInt8)} {tn:Bool} (ht:types.length<2^63) {i:Nat} (hi:i<g.nodes.length):
 Ah (Ac tab) 16 [g.av,.sl tn (vs .str types),.int .i64 (Hw g i)] (· =.int .i64 ((sg g.nodes.length (PE (Cc types g) g.nodes.length i):Nat):Int)):=by
 have hn2:g.nodes.length*g.nodes.length≤12*12:=Nat.mul_le_mul hN hN
 have hinj:∀{l:List Nat} {v:Nat},(∀ w∈l,w<g.nodes.length)→v<g.nodes.length→(Hw g v∈l.map (Hw g)↔v∈l):=fun{l v} hl hv=>by
  rw[List.mem_map]
  constructor
  ·rintro⟨w,hw,e⟩
   rw[← (VK hck (hl w hw) hv).1 e];exact hw
  ·intro h;exact⟨v,h,rfl⟩
 refine Ae rfl rfl ?_
 (conv=>whnf);repeat' (first  |(refine kA ?_;conv=>whnf)|(refine Br.mk (fun hc=>?_) fun hc=>?_<;>first|exact hc.elim|conv=>whnf)|(refine kB ?_))
 all_goals first|(exfalso;omega)|skip
 have hB0:=Vu.start (A:=Cc types g) hi
 have hL0:=Xm.start (A:=Cc types g) hi
 refine Aj (fun m env s=>∃(d c gS:Nat) (L SL:List Nat) (nl:Bool),m=g.nodes.length+1-d∧Xm (Cc types g) g.nodes.length i d L∧Vu (Cc types g) g.nodes.length i d (fun _=>False) [] SL∧env=[(1,.sl tn (vs .str types)),(3,.ref 0 0 0 0),(7,.own 1 gS 0 SL.length),(8,.sl nl (ints (L.map (Hw g)))),(9,.int .i64 ((exS (Cc types g) g.nodes.length i SL:Nat):Int)),(10,.int .i64 ((d+1:Nat):Int))]∧s=⟨[.arr 0 4 true true [g.av],.arr gS 1 true true (ints (SL.map (Hw g)))],c⟩) ?_ _ _ _ ⟨0,_,_,[i],[i],true,rfl,hL0,hB0,?_,rfl⟩
 rotate_left
 ·have:exS (Cc types g) g.nodes.length i [i]=0:=by
   refine F9 fun w hw=>?_
   by_cases e:w=i
   ·subst e
    rw[if_pos (by simp)]
    unfold PE
    rw[(Ia hw hw).2 (Gf.2 rfl)];rfl
   ·rw[if_neg (by simpa using e)]
  rw[this];rfl
 clear hB0 hL0
 rintro _ _ _ ⟨d,c,gS,L,SL,nl,rfl,hL,hB,rfl,rfl⟩
 refine⟨rfl,?_⟩
 have hls:SL.length≤g.nodes.length:=Na hB.sn fun u hu=>((hB.sl u).1 hu).1
 have hlL:L.length≤g.nodes.length:=Na hL.1 fun u hu=>((hL.2 u).1 hu).1
 have hlm:(L.map (Hw g)).length=L.length:=List.length_map _
 by_cases hL0:L=[]
 ·subst hL0
  rw[hB.done hi hL]
  (conv=>whnf);repeat' (first  |(refine kA ?_;conv=>whnf)|(refine Br.mk (fun hc=>?_) fun hc=>?_<;>first|exact hc.elim|conv=>whnf)|(refine kB ?_))
  all_goals first|rfl|(exfalso;omega)|(simp at *;done)
 have hLp:0<L.length:=List.length_pos_iff.2 hL0
 have hdn:=hL.lt hi hL0
 (conv=>whnf);repeat' (first  |(refine kA ?_;conv=>whnf)|(refine Br.mk (fun hc=>?_) fun hc=>?_<;>first|exact hc.elim|conv=>whnf)|(refine kB ?_))
 all_goals first|(exfalso;omega)|skip
 refine Aj (fun m env s=>∃(k c gS gN:Nat) (nn:Bool) (nx SL:List Nat),m=L.length-k∧k≤L.length∧Vu (Cc types g) g.nodes.length i d (fun w=>∃u∈L.take k,Cc types g u w=true) nx SL∧env=[(1,.sl tn (vs .str types)),(3,.ref 0 0 0 0),(7,.own 1 gS 0 SL.length),(9,.int .i64 ((exS (Cc types g) g.nodes.length i SL:Nat):Int)),(10,.int .i64 ((d+1:Nat):Int)),(11,.own 2 gN 0 nx.length),(25,.sl nl (ints (L.map (Hw g)))),(26,.int .i64 L.length),(27,.int .i64 k)]∧s=⟨[.arr 0 4 true true [g.av],.arr gS 1 true true (ints (SL.map (Hw g))),.arr gN 1 nn true (ints (nx.map (Hw g)))],c⟩) ?_ _ _ _ ⟨0,_,_,_,false,[],SL,rfl,by omega,hB.congr (fun w _=>by simp),by rw[hlm];rfl,rfl⟩
 clear hB SL hls
 rintro _ _ _ ⟨k,c,gS,gN,nn,nx,SL,rfl,hk,hB,rfl,rfl⟩
 refine⟨rfl,?_⟩
 have hls:SL.length≤g.nodes.length:=Na hB.sn fun u hu=>((hB.sl u).1 hu).1
 have hnl:nx.length≤g.nodes.length:=Na hB.nd fun u hu=>((hB.mem u).1 hu).1
 by_cases hkl:k<L.length
 case neg=>
  obtain rfl:k=L.length:=by omega
  rw[List.take_of_length_le (Nat.le_refl _)]at hB
  obtain⟨hL',hB'⟩:=hB.next hL
  have hnm:(nx.map (Hw g)).length=nx.length:=List.length_map _
  have hsN:sub (ints (nx.map (Hw g))) 0 nx.length=ints (nx.map (Hw g)):=by
   have:=@uI (nx.map (Hw g))
   rwa [hnm]at this
  (conv=>whnf);repeat' (first|(refine Ap ⟨rfl,by rw[lI,hnm];omega⟩ ?_;conv=>whnf)|(refine A8 hsN ?_;conv=>whnf)|(refine kA ?_;conv=>whnf)|(refine Br.mk (fun hc=>?_) fun hc=>?_<;>first|exact hc.elim|conv=>whnf)|(refine kB ?_))
  all_goals first
   |(exfalso;omega)
   |exact again.mk ⟨_,by omega,d+1,_,_,nx,SL,nn,rfl,hL',hB',rfl,rfl⟩
 have hu:=(hL.2 L[k]).1 (List.getElem_mem hkl)
 have hkm:k<(L.map (Hw g)).length:=by omega
 have hLk:(L.map (Hw g))[k]=Hw g L[k]:=List.getElem_map _
 obtain⟨_,⟨wn,W,rfl,hWl,hW⟩,pS⟩:=(Ag5 (tn:=tn) hg hE ht (id:=Hw g L[k])).YO
 have nL:nth (ints (L.map (Hw g))) (Int.toNat (Nat.cast k))=some (.int .i64 (Hw g L[k])):=by rw[nIN hkm,hLk]
 (conv=>whnf);repeat' (first|(refine Au nL ?_;conv=>whnf)|(refine Aa pS ?_;rintro _ rfl;conv=>whnf)|(refine kA ?_;conv=>whnf)|(refine Br.mk (fun hc=>?_) fun hc=>?_<;>first|exact hc.elim|conv=>whnf)|(refine kB ?_))
 all_goals first|(exfalso;omega)|skip
 refine Aj (fun m env s=>∃(j c gS gN:Nat) (nn:Bool) (nx SL:List Nat),m=W.length-j∧j≤W.length∧Vu (Cc types g) g.nodes.length i d (fun w=>(∃ u∈L.take k,Cc types g u w=true)∨∃a∈W.take j,a.to=Hw g w) nx SL∧env=[(1,.sl tn (vs .str types)),(3,.ref 0 0 0 0),(7,.own 1 gS 0 SL.length),(9,.int .i64 ((exS (Cc types g) g.nodes.length i SL:Nat):Int)),(10,.int .i64 ((d+1:Nat):Int)),(11,.own 2 gN 0 nx.length),(25,.sl nl (ints (L.map (Hw g)))),(26,.int .i64 L.length),(27,.int .i64 k),(34,.sl wn (vs Aw.av W)),(35,.int .i64 W.length),(36,.int .i64 j)]∧s=⟨[.arr 0 4 true true [g.av],.arr gS 1 true true (ints (SL.map (Hw g))),.arr gN 1 nn true (ints (nx.map (Hw g)))],c⟩) ?_ _ _ _ ⟨0,_,_,_,nn,nx,SL,rfl,by omega,hB.congr (fun w _=>by simp),rfl,rfl⟩
 clear hB nx SL hls hnl nn gN gS c
 rintro _ _ _ ⟨j,c,gS,gN,nn,nx,SL,rfl,hj,hB,rfl,rfl⟩
 refine⟨rfl,?_⟩
 have hls:SL.length≤g.nodes.length:=Na hB.sn fun u hu=>((hB.sl u).1 hu).1
 have hnl:nx.length≤g.nodes.length:=Na hB.nd fun u hu=>((hB.mem u).1 hu).1
 by_cases hjl:j<W.length
 case neg=>
  obtain rfl:j=W.length:=by omega
  rw[List.take_of_length_le (Nat.le_refl _)]at hB
  have hB':=hB.congr (Q':=fun w=>∃u∈L.take (k+1),Cc types g u w=true) (fun w hw=>by
   rw[hW,←YG]
   have ha:Cc types g L[k] w=true↔JN types g.edges (Hw g L[k]) (Hw g w):=by rw[WE hu.1 hw,decide_eq_true_iff]
   rw[← ha,List.take_succ_eq_append_getElem hkl]
   constructor
   ·rintro(⟨u,h1,h2⟩|h)
    ·exact⟨u,List.mem_append_left _ h1,h2⟩
    ·exact⟨_,List.mem_append_right _ (List.mem_singleton.2 rfl),h⟩
   ·rintro⟨u,h1,h2⟩
    rcases List.mem_append.1 h1 with h1|h1
    ·exact .inl ⟨u,h1,h2⟩
    ·rw[List.mem_singleton.1 h1]at h2;exact .inr h2)
  (conv=>whnf);repeat' (first  |(refine kA ?_;conv=>whnf)|(refine Br.mk (fun hc=>?_) fun hc=>?_<;>first|exact hc.elim|conv=>whnf)|(refine kB ?_))
  all_goals first
   |(exfalso;omega)
   |exact again.mk ⟨_,by omega,k+1,_,_,_,nn,nx,SL,rfl,by omega,hB',rfl,rfl⟩
 have htk:W.take (j+1)=W.take j++[W[j]]:=List.take_succ_eq_append_getElem hjl
 obtain⟨e2,he2,hp2⟩:=(hW W[j].to).1 ⟨_,List.getElem_mem hjl,rfl⟩
 have hyi:W[j].to∈BK g:=by rw[← hp2.2.1];exact(Ju hck e2 he2).2
 obtain⟨v,hv⟩:∃v,v=PD g W[j].to:=⟨_,rfl⟩
 have hvn:v<g.nodes.length:=by rw[hv];exact PI hyi
 have hvy:Hw g v=W[j].to:=by rw[hv];exact WG hyi
 have AmE:Cc types g L[k] v=true:=by
  rw[WE hu.1 hvn,decide_eq_true_iff,hvy,YG]
  exact⟨e2,he2,hp2⟩
 have hQ:∀w,w<g.nodes.length→(((∃ u∈L.take k,Cc types g u w=true)∨∃a∈W.take j,a.to=Hw g w)∨w=v↔(∃ u∈L.take k,Cc types g u w=true)∨∃a∈W.take (j+1),a.to=Hw g w):=fun w hw=>by
  rw[htk]
  constructor
  ·rintro((h|⟨a,h1,h2⟩)|rfl)
   ·exact .inl h
   ·exact .inr ⟨a,List.mem_append_left _ h1,h2⟩
   ·exact .inr ⟨_,List.mem_append_right _ (List.mem_singleton.2 rfl),hvy.symm⟩
  ·rintro(h|⟨a,h1,h2⟩)
   ·exact .inl (.inl h)
   ·rcases List.mem_append.1 h1 with h1|h1
    ·exact .inl (.inr ⟨a,h1,h2⟩)
    ·rw[List.mem_singleton.1 h1,←hvy]at h2
     exact .inr ((VK hck hvn hw).1 h2).symm
 have hSm:(SL.map (Hw g)).length=SL.length:=List.length_map _
 have hNm:(nx.map (Hw g)).length=nx.length:=List.length_map _
 have hsS:sub (ints (SL.map (Hw g))) 0 SL.length=ints (SL.map (Hw g)):=by
  have:=@uI (SL.map (Hw g))
  rwa [hSm]at this
 have pH:=AmD (l:=SL.map (Hw g)) (b:=true) (x:=W[j].to) (by omega)
 have hmem:W[j].to∈SL.map (Hw g)↔v∈SL:=by rw[← hvy];exact hinj (fun w hw=>((hB.sl w).1 hw).1) hvn
 have nW:nth (vs Aw.av W) (Int.toNat (Nat.cast j))=some (Aw.av W[j]):=nVN hjl
 unfold Aw.av at nW
 have hex:=Ail (A:=Cc types g) (SL:=SL) hi
 by_cases hin:v∈SL
 ·rw[decide_eq_true (hmem.2 hin)]at pH
  have hB':=(hB.old hin).congr hQ
  (conv=>whnf);repeat' (first|(refine Au nW ?_;conv=>whnf)|(refine Ap ⟨rfl,by rw[lI,hSm];omega⟩ ?_;conv=>whnf)|(refine A8 hsS ?_;conv=>whnf)|(refine Aa pH ?_;rintro _ rfl;conv=>whnf)|(refine kA ?_;conv=>whnf)|(refine Br.mk (fun hc=>?_) fun hc=>?_<;>first|exact hc.elim|conv=>whnf)|(refine kB ?_))
  all_goals first
   |(exfalso;omega)
   |exact again.mk ⟨_,by omega,j+1,_,_,_,nn,nx,SL,rfl,by omega,hB',rfl,rfl⟩
 ·rw[decide_eq_false (fun h=>hin (hmem.1 h))]at pH
  obtain⟨hf,hB'⟩:=hB.new hvn hin
  have hB':=hB'.congr hQ
  have hds:Ds (Cc types g) g.nodes.length i v (d+1):=J8.2 ⟨hf,L[k],hu.1,AmE,hu.2⟩
  have AmF:=Af1 hvn hin hds hi
  have s1:(SL++[v]).map (Hw g)=SL.map (Hw g)++[W[j].to]:=by rw[List.map_append,←hvy];rfl
  have s2:(nx++[v]).map (Hw g)=nx.map (Hw g)++[W[j].to]:=by rw[List.map_append,←hvy];rfl
  have s3:(exS (Cc types g) g.nodes.length i SL:Int)+(d:Int)=((exS (Cc types g) g.nodes.length i (SL++[v]):Nat):Int):=by rw[AmF];omega
  have s4:(((d+1:Nat):Int)-1)=(d:Int):=by omega
  (conv=>whnf);repeat' (first|(refine Au nW ?_;conv=>whnf)|(refine Ap ⟨rfl,by rw[lI,hSm];omega⟩ ?_;conv=>whnf)|(refine A8 hsS ?_;conv=>whnf)|(refine Aa pH ?_;rintro _ rfl;conv=>whnf)|(refine Um (f:=AV.int .i64) (l:=SL.map (Hw g)) (x:=W[j].to) (fun _=>rfl) (by omega) (by omega) ?_;rw[← s1,hSm];conv=>whnf)|(refine Um (f:=AV.int .i64) (l:=nx.map (Hw g)) (x:=W[j].to) (fun _=>rfl) (by omega) (by omega) ?_;rw[← s2,hNm];conv=>whnf)|(rw [s4];conv=>whnf)|(rw [s3];conv=>whnf)|(refine kA ?_;conv=>whnf)|(refine Br.mk (fun hc=>?_) fun hc=>?_<;>first|exact hc.elim|conv=>whnf)|(refine kB ?_))
  all_goals first
   |(exfalso;omega)
   |exact again.mk ⟨_,by omega,j+1,_,_,_,true,nx++[v],SL++[v],rfl,by omega,hB',by rw[List.length_append,List.length_append];rfl,rfl⟩
end AI
end Go.Proofs.YtchcadfjbkkgmaaGreatDoor
