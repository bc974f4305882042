/- Betweenness: the program's. Betweenness: the reference's. One edge more: how the counts change. The list of triangles by the relation; after a change of one edge. The reference's Weak. Labels: two edges are joined in either order. Plain. -/
import Derived.Test.YtchcadfjbkkgmaaGreatDoorDMap
import Derived.Test.YtchcadfjbkkgmaaGreatDoorDMal
import Derived.Test.YtchcadfjbkkgmaaGreatDoorDMak
import Derived.Test.YtchcadfjbkkgmaaGreatDoorDMai
set_option linter.unusedVariables false
set_option maxRecDepth 4000
namespace Go.Proofs.YtchcadfjbkkgmaaGreatDoor
namespace AI
section
variable {D:Nat→Nat→Int} {P:Nat→Nat→Nat} {n v s:Nat}
theorem YC {a:Nat×Nat} (h:∀t,PS D v s t=false):∀k,rowB D P v s (some a) k=some a
 |0=>rfl
 |k+1=>by
  show(rowB D P v s (some a) k).bind _=_
  rw[YC h k]
  show stB D P v s k a=some a
  unfold stB
  rw[h k];rfl
theorem Ad1 {a0:Option (Nat×Nat)} {a:Nat×Nat} {t:Nat} (h:rowB D P v s a0 t=some a) (ho:PS D v s t=true):rowB D P v s a0 (t+1)=addN a (shr P v s t):=by
 show(rowB D P v s a0 t).bind _=_
 rw[h]
 show stB D P v s t a=_
 unfold stB
 rw[if_pos ho]
theorem WE {a0:Option (Nat×Nat)} {a:Nat×Nat} {t:Nat} (h:rowB D P v s a0 t=some a) (ho:PS D v s t=false):rowB D P v s a0 (t+1)=some a:=by
 show(rowB D P v s a0 t).bind _=_
 rw[h]
 show stB D P v s t a=_
 unfold stB
 rw[ho];rfl
theorem Agq {l:List (Nat×Nat)} {t:Nat} (hv:v<n) (hs:s<n) (ht:t≤n) (hl:Xm D P n v=some l) (h:rowB D P v s (allB D P n v s) t=none):Xm D P n n=none:=by
 have h1:allB D P n v (s+1)=none:=PU h ht
 have h2:allB D P n v n=none:=PV h1 (by omega)
 refine RF (k:=v+1) ?_ (by omega)
 show(Xm D P n v).bind _=none
 rw[hl]
 show(allB D P n v n).map _=none
 rw[h2];rfl
theorem AaI {l:List (Nat×Nat)} {a:Nat×Nat} (hl:Xm D P n v=some l) (h:allB D P n v n=some a):Xm D P n (v+1)=some (l++[a]):=by
 show(Xm D P n v).bind _=_
 rw[hl]
 show(allB D P n v n).map _=_
 rw[h];rfl
end
theorem Ad0 {A:Nat→Nat→Bool} {n v s t:Nat} {z:Nat×Nat} (hn:n≤12) (hv:v<n) (hs:s<n) (ht:t≤n) (h:rowB (EG A n) (Et A n) v s (allB (EG A n) (Et A n) n v s) t=some z):Uw z:=by
 obtain⟨N,hN,hd⟩:=Nv 4096
 have hG:=RG (A:=A) hN hd hn
 cases ha:allB (EG A n) (Et A n) n v s with
 |none=>rw[ha,L6]at h;cases h
 |some a=>
  rw[ha]at h
  obtain⟨k1,k2⟩:=Aaa hG hv (by omega) ha
  exact(VO hG hv hs k1 k2 ht h).1
theorem TV {A:Nat→Nat→Bool} {n v s t:Nat} (hn:n≤12) (hv:v<n) (hs:s<n) (ht:t<n) (ho:PS (EG A n) v s t=true):Uw (shr (Et A n) v s t)∧0<(shr (Et A n) v s t).1∧(shr (Et A n) v s t).1≤4096∧(shr (Et A n) v s t).2≤4096∧0<Et A n s t∧Et A n s t≤4096∧Et A n s v*Et A n v t≤4096:=by
 obtain⟨N,hN,hd⟩:=Nv 4096
 have hG:=RG (A:=A) hN hd hn
 obtain⟨h1,h2,h3,h4⟩:=hG.shr hv hs ht ho
 obtain⟨k1,k2,_,k4⟩:=hG.div v s t hv hs ht ho
 obtain⟨a,b,d1,d2,d3⟩:=Agy hv hs ht ho
 have hp:0<Et A n s v*Et A n v t:=Nat.mul_pos (VQ hs hv d1) (VQ hv ht d2)
 obtain⟨q1,q2,_⟩:=UM (a:=Et A n s v*Et A n v t) k1
 refine⟨h1,?_,h2,h3,k1,k2,by omega⟩
 have:0<(KN (Et A n s v*Et A n v t) (Et A n s t)).2*(Et A n s v*Et A n v t):=Nat.mul_pos q2 hp
 rw[← q1]at this
 exact Nat.pos_of_mul_pos_right this
def KR (n:Nat) (F:Nat→AV):List AV:=(List.range n).map F
theorem Ry {n:Nat} {F:Nat→AV}:(KR n F).length=n:=by simp[KR]
theorem MR {n:Nat} {F:Nat→AV} {k:Nat} (h:k<n):nth (KR n F) (Int.toNat (Nat.cast k))=some (F k):=by
 rw[show Int.toNat (Nat.cast k)=k from rfl,Ar]
 simp[KR,h]
theorem Abe {n:Nat} {F:Nat→AV} {k:Nat} {x:AV}:(KR n F).set (Int.toNat (Nat.cast k)) x=KR n (PG F k x):=by
 apply List.ext_getElem
 ·simp[KR]
 ·intro i h1 h2
  show((KR n F).set k x)[i]'h1=_
  rw[List.getElem_set]
  simp only[KR,List.getElem_map,List.getElem_range]
  unfold PG
  by_cases e:k=i
  ·rw[if_pos e,if_pos e.symm]
  ·rw[if_neg e,if_neg fun h=>e h.symm]
theorem VD {n:Nat} {F G:Nat→AV} (h:∀i,i<n→F i=G i):KR n F=KR n G:=List.map_congr_left fun i hi=>h i (List.mem_range.1 hi)
theorem Agr {n:Nat} {x:AV}:List.replicate n x=KR n fun _=>x:=by
 apply List.ext_getElem
 ·simp[KR]
 ·intro i h1 h2
  simp[KR]
theorem Jp:∀l:List Int,Gm (ints l) (ints l)=true
 |[]=>rfl
 |x::l=>by
  show(AL (.int .i64 x) (.int .i64 x)&&Gm (ints l) (ints l))=true
  rw[X8,Jp l];rfl
theorem ZB {b:Bool} {l:List Int}:AL (.sl b (ints l)) (.sl b (ints l))=true:=by simp[AL,Jp]
theorem ZC {k:IntKind} {x:Int}:AL (.BR [.int k x]) (.BR [.int k x])=true:=by simp[AL,Gm]
theorem AeP {o g i n:Nat}:AL (.ref o g i n) (.ref o g i n)=true:=by simp[AL]
def Rn (p:Int×(Nat×Nat)):AV:=.agg [.int .i64 p.1,.int .i64 p.2.1,.int .i64 p.2.2]
theorem AaJ (p:Int×(Nat×Nat)):(Rn p).cells.length=3:=rfl
def btW (ids:List Int) (n:Nat) (o:Option (List (Nat×Nat))):AV:=match o with
 |some l=>.Ce [.sl (decide (0<n)) (vs Rn (ids.zip l)),.int .i64 0]
 |none=>.Ce [.sl false [],.int .i64 24]
noncomputable def btG (types:List (List UInt8)) (g:GG):AV:=
 if Bd g=0 then btW (Ba g) g.nodes.length (Xm (EG (DI types g) g.nodes.length) (Et (DI types g) g.nodes.length) g.nodes.length g.nodes.length)else .Ce [.sl false [],.int .i64 (Bd g)]
def Qk (n:Nat) (D:Nat→Nat→Int) (q:Nat):AV:=.sl true (ints (Dj n (D q)))
def rowP (n:Nat) (P:Nat→Nat→Nat) (q:Nat):AV:=.sl true (ints (Dj n fun v=>(P q v:Int)))
def Ags (gv nv:AV) (X Y:List AV) (r:List Obj):List Obj:=.arr 0 4 true true [gv]::.arr 1 2 true true [nv]::.arr 2 1 true true X::.arr 3 1 true true Y::r
set_option maxHeartbeats 8000000 in
theorem Aeo {g:GG} (hg:g.ok) (hN:g.nodes.length≤12) (hE:g.edges.length≤1000) {types:List (List UInt8)} {tn:Bool} (ht:types.length<2^63):Ah (Ac tab) 11 [g.av,.sl tn (vs .str types)] (· =btG types g):=by
 have pk:=V9 hg
 unfold btG
 by_cases hck:Bd g=0
 case neg=>
  rw[if_neg hck]
  generalize Bd g=e0 at pk hck
  refine Ad rfl rfl ?_
  (conv=>whnf);repeat' (first|(refine Aa pk ?_;rintro _ rfl;conv=>whnf)|(refine kA ?_;conv=>whnf)|(refine Br.mk (fun hc=>?_) fun hc=>?_<;>first|exact hc.elim|conv=>whnf)|(refine kB ?_))
  all_goals first|rfl|(exfalso;omega)
 have pb:=AcS hg (by omega) hE hck (types:=types) (tn:=tn) ht
 rw[hck]at pk
 rw[if_pos hck]
 have pr:∀q,q<g.nodes.length→_:=fun q hq=>Adv (ids:=Ba g) (A:=DI types g) (CV g) hN hq
 have hvn:∀{v s t:Nat} {z:Nat×Nat},v<g.nodes.length→s<g.nodes.length→t≤g.nodes.length→_→Uw z:=fun{v s t z} h1 h2 h3 h=>Ad0 (A:=DI types g) hN h1 h2 h3 h
 have hsm:∀{v s t:Nat},v<g.nodes.length→s<g.nodes.length→t<g.nodes.length→_→_:=fun{v s t} h1 h2 h3 h=>TV (A:=DI types g) hN h1 h2 h3 h
 have VY:=CV g
 have hDb:∀{u w:Nat},u<g.nodes.length→w<g.nodes.length→-1≤EG (DI types g) g.nodes.length u w∧EG (DI types g) g.nodes.length u w<g.nodes.length:=fun{u w} h1 h2=>⟨WC,PO h1 h2⟩
 have hnv:Abz (Ba g) (DI types g) g.nodes.length=.agg [.sl (decide (0<g.nodes.length)) (ints (Ba g)),.sl true (vs Ut ((List.range g.nodes.length).map (MS (DI types g) g.nodes.length)))]:=rfl
 rw[hnv]at pb
 simp only[hnv]at pr
 clear hnv
 generalize EG (DI types g) g.nodes.length=D at*
 generalize Et (DI types g) g.nodes.length=P at*
 generalize vs Ut ((List.range g.nodes.length).map (MS (DI types g) g.nodes.length))=RW at pb pr
 refine Ad rfl rfl ?_
 (conv=>whnf);repeat' (first|((first|refine Aa pk ?_|refine Aa pb ?_);rintro _ rfl;conv=>whnf)|(refine kA ?_;conv=>whnf)|(refine Br.mk (fun hc=>?_) fun hc=>?_<;>first|exact hc.elim|conv=>whnf)|(refine kB ?_))
 all_goals first|(exfalso;omega)|skip
 rw[VY,Agr]
 refine Ai (fun m env s=>∃(k c:Nat) (F G:Nat→AV),m=g.nodes.length-k∧k≤g.nodes.length∧(∀ q,q<k→F q=Qk g.nodes.length D q)∧(∀ q,q<k→G q=rowP g.nodes.length P q)∧(∀ q,k≤q→F q=.sl false [])∧(∀ q,k≤q→G q=.sl false [])∧env=[(7,.ref 1 1 0 0),(8,.own 2 2 0 g.nodes.length),(9,.own 3 3 0 g.nodes.length),(39,.int .i64 g.nodes.length),(40,.int .i64 k)]∧s=⟨Ags g.av (.agg [.sl (decide (0<g.nodes.length)) (ints (Ba g)),.sl true RW]) (KR g.nodes.length F) (KR g.nodes.length G) [],c⟩) ?_ _ _ _ ⟨0,_,_,_,rfl,by omega,fun q h=>by omega,fun q h=>by omega,fun q h=>rfl,fun q h=>rfl,rfl,rfl⟩
 rintro _ _ _ ⟨k,c,F,G,rfl,hk,hF,hG,hF0,hG0,rfl,rfl⟩
 refine⟨rfl,?_⟩
 by_cases hkl:k<g.nodes.length
 ·have pq:=pr k hkl
  have nF:nth (KR g.nodes.length F) (Int.toNat (Nat.cast k))=some (.sl false []):=by rw[MR hkl,hF0 k (Nat.le_refl k)]
  have nG:nth (KR g.nodes.length G) (Int.toNat (Nat.cast k))=some (.sl false []):=by rw[MR hkl,hG0 k (Nat.le_refl k)]
  have lF:=Ry (n:=g.nodes.length) (F:=F)
  have lG:=Ry (n:=g.nodes.length) (F:=G)
  have eF:(KR g.nodes.length F).set (Int.toNat (Nat.cast k)) (BA (.sl false []) 0 (.sl true (ints (Dj g.nodes.length (D k)))))=KR g.nodes.length (PG F k (Qk g.nodes.length D k)):=Abe
  have eG:(KR g.nodes.length G).set (Int.toNat (Nat.cast k)) (BA (.sl false []) 0 (.sl true (ints (Dj g.nodes.length fun v=>(P k v:Int)))))=KR g.nodes.length (PG G k (rowP g.nodes.length P k)):=Abe
  (conv=>whnf);repeat' (first|(refine Aa pq ?_;rintro _ rfl;conv=>whnf)|(refine Au nF ?_;conv=>whnf)|(refine Au nG ?_;conv=>whnf)|(refine AU eF ?_;conv=>whnf)|(refine AU eG ?_;conv=>whnf)|(refine kA ?_;conv=>whnf)|(refine Br.mk (fun hc=>?_) fun hc=>?_<;>first|exact hc.elim|conv=>whnf)|(refine kB ?_))
  all_goals first
   |(exfalso;omega)
   |(refine again.mk ⟨_,by omega,k+1,_,_,_,rfl,by omega,fun q hq=>?_,fun q hq=>?_,fun q hq=>?_,fun q hq=>?_,rfl,rfl⟩
     ·by_cases e:q=k
      ·rw[e,Ht]
      ·rw[D8 e];exact hF q (by omega)
     ·by_cases e:q=k
      ·rw[e,Ht]
      ·rw[D8 e];exact hG q (by omega)
     ·rw[D8 (by omega)];exact hF0 q (by omega)
     ·rw[D8 (by omega)];exact hG0 q (by omega))
 obtain rfl:k=g.nodes.length:=by omega
 have eF:KR g.nodes.length F=KR g.nodes.length (Qk g.nodes.length D):=VD fun q hq=>hF q hq
 have eG:KR g.nodes.length G=KR g.nodes.length (rowP g.nodes.length P):=VD fun q hq=>hG q hq
 rw[eF,eG]
 clear eF eG hF hG hF0 hG0 F G hk hkl pr pb pk
 have lX:=Ry (n:=g.nodes.length) (F:=Qk g.nodes.length D)
 have lY:=Ry (n:=g.nodes.length) (F:=rowP g.nodes.length P)
 (conv=>whnf);repeat' (first  |(refine kA ?_;conv=>whnf)|(refine Br.mk (fun hc=>?_) fun hc=>?_<;>first|exact hc.elim|conv=>whnf)|(refine kB ?_))
 all_goals first|(exfalso;omega)|skip
 rw[VY]
 refine Ai (fun m env s=>∃(v c gO:Nat) (l:List (Nat×Nat)),m=g.nodes.length-v∧v≤g.nodes.length∧Xm D P g.nodes.length v=some l∧env=[(7,.ref 1 1 0 0),(8,.own 2 2 0 g.nodes.length),(9,.own 3 3 0 g.nodes.length),(12,.own 4 gO 0 v),(60,.sl (decide (0<g.nodes.length)) (ints (Ba g))),(61,.int .i64 g.nodes.length),(62,.int .i64 v)]∧s=⟨Ags g.av (.agg [.sl (decide (0<g.nodes.length)) (ints (Ba g)),.sl true RW]) (KR g.nodes.length (Qk g.nodes.length D)) (KR g.nodes.length (rowP g.nodes.length P)) [.arr gO 3 (decide (0<v)) true (vs Rn (((Ba g).take v).zip l))],c⟩) ?_ _ _ _ ⟨0,_,_,[],rfl,by omega,rfl,rfl,rfl⟩
 rintro _ _ _ ⟨v,c,gO,l,rfl,hv,hl,rfl,rfl⟩
 refine⟨rfl,?_⟩
 have hll:=VL hl
 have hzl:(((Ba g).take v).zip l).length=v:=by rw[List.length_zip,List.length_take];omega
 by_cases hvl:v<g.nodes.length
 case neg=>
  obtain rfl:v=g.nodes.length:=by omega
  rw[List.take_of_length_le (by omega)]at hzl ⊢
  rw[hl]
  unfold btW
  have hsv:sub (vs Rn ((Ba g).zip l)) 0 g.nodes.length=vs Rn ((Ba g).zip l):=by
   have:sub (vs Rn ((Ba g).zip l)) 0 ((Ba g).zip l).length=vs Rn ((Ba g).zip l):=uV
   rwa [hzl]at this
  (conv=>whnf);repeat' (first|(refine Ak ⟨rfl,by rw[lV];omega⟩ ?_;conv=>whnf)|(refine AU hsv ?_;conv=>whnf)|(refine kA ?_;conv=>whnf)|(refine Br.mk (fun hc=>?_) fun hc=>?_<;>first|exact hc.elim|conv=>whnf)|(refine kB ?_))
  all_goals first|(exfalso;omega)|rfl
 have hvi:v<(Ba g).length:=by omega
 have nVd:nth (KR g.nodes.length (Qk g.nodes.length D)) (Int.toNat (Nat.cast v))=some (Qk g.nodes.length D v):=MR hvl
 have nVp:nth (KR g.nodes.length (rowP g.nodes.length P)) (Int.toNat (Nat.cast v))=some (rowP g.nodes.length P v):=MR hvl
 unfold Qk at nVd
 unfold rowP at nVp
 have lT:∀f:Nat→Int,(Dj g.nodes.length f).length=g.nodes.length:=fun f=>Jb
 (conv=>whnf);repeat' (first  |(refine kA ?_;conv=>whnf)|(refine Br.mk (fun hc=>?_) fun hc=>?_<;>first|exact hc.elim|conv=>whnf)|(refine kB ?_))
 all_goals first|(exfalso;omega)|skip
 refine Ai (fun m env st=>∃(s c gS:Nat) (a:Nat×Nat),m=g.nodes.length-s∧s≤g.nodes.length∧allB D P g.nodes.length v s=some a∧env=[(7,.ref 1 1 0 0),(8,.own 2 2 0 g.nodes.length),(9,.own 3 3 0 g.nodes.length),(12,.own 4 gO 0 v),(13,.int .i64 v),(14,.int .i64 (Ba g)[v]),(15,.ref 5 gS 0 0),(60,.sl (decide (0<g.nodes.length)) (ints (Ba g))),(61,.int .i64 g.nodes.length),(62,.int .i64 v),(70,.int .i64 g.nodes.length),(71,.int .i64 s)]∧st=⟨Ags g.av (.agg [.sl (decide (0<g.nodes.length)) (ints (Ba g)),.sl true RW]) (KR g.nodes.length (Qk g.nodes.length D)) (KR g.nodes.length (rowP g.nodes.length P)) [.arr gO 3 (decide (0<v)) true (vs Rn (((Ba g).take v).zip l)),.arr gS 2 true true [fv a]],c⟩) ?_ _ _ _ ⟨0,_,_,(0,1),rfl,by omega,rfl,by rw[← VY];first|rfl|(rw [VY];rfl),rfl⟩
 rintro _ _ _ ⟨s,c,gS,a,rfl,hs,ha,rfl,rfl⟩
 refine⟨rfl,?_⟩
 by_cases hsl:s<g.nodes.length
 case neg=>
  obtain rfl:s=g.nodes.length:=by omega
  have hl':=AaI hl ha
  have hsn:((Ba g).take (v+1)).zip (l++[a])=((Ba g).take v).zip l++[((Ba g)[v],a)]:=by
   rw[List.take_succ_eq_append_getElem hvi,List.zip_append (by rw[List.length_take];omega)];rfl
  (conv=>whnf);repeat' (first|(refine Sm (f:=Rn) (l:=((Ba g).take v).zip l) (x:=((Ba g)[v],a)) AaJ (by omega) (by omega) ?_;conv=>whnf)|(refine kA ?_;conv=>whnf)|(refine Br.mk (fun hc=>?_) fun hc=>?_<;>first|exact hc.elim|conv=>whnf)|(refine kB ?_))
  all_goals first
   |(exfalso;omega)
   |(rw [hzl,←hsn];exact again.mk ⟨_,by omega,v+1,_,_,l++[a],rfl,by omega,hl',rfl,by rw[decide_eq_true (show 0<v+1 by omega)];rfl⟩)
 have nSd:nth (KR g.nodes.length (Qk g.nodes.length D)) (Int.toNat (Nat.cast s))=some (Qk g.nodes.length D s):=MR hsl
 have nSp:nth (KR g.nodes.length (rowP g.nodes.length P)) (Int.toNat (Nat.cast s))=some (rowP g.nodes.length P s):=MR hsl
 unfold Qk at nSd
 unfold rowP at nSp
 have lDs:=lT (D s)
 have lDv:=lT (D v)
 have Ami:(Dj g.nodes.length (D s))[v]'(by rw[lT];exact hvl)=D s v:=BM _
 have Ag5:allB D P g.nodes.length v (s+1)=rowB D P v s (some a) g.nodes.length:=by rw[← ha];rfl
 by_cases I5:s=v∨D s v<0
 ·have hoff:∀t,PS D v s t=false:=fun t=>by
   unfold PS
   rcases I5 with h|h
   ·simp[h]
   ·have:¬0≤D s v:=by omega
    simp[this]
  rw[YC hoff]at Ag5
  (conv=>whnf);repeat' (first|(refine Au nSd ?_;conv=>whnf)|(refine kA ?_;conv=>whnf)|(refine Br.mk (fun hc=>?_) fun hc=>?_<;>first|exact hc.elim|conv=>whnf)|(refine kB ?_))
  all_goals first
   |(exfalso;omega)
   |exact again.mk ⟨_,by omega,s+1,_,_,a,rfl,by omega,Ag5,rfl,rfl⟩
 have Am1:s≠v:=fun h=>I5 (.inl h)
 have Am2:0≤D s v:=by
  by_cases h:0≤D s v
  ·exact h
  ·exact absurd (.inr (by omega)) I5
 (conv=>whnf);repeat' (first|(refine Au nSd ?_;conv=>whnf)|(refine kA ?_;conv=>whnf)|(refine Br.mk (fun hc=>?_) fun hc=>?_<;>first|exact hc.elim|conv=>whnf)|(refine kB ?_))
 all_goals first|(exfalso;omega)|skip
 refine Ai (fun m env st=>∃(t c gS:Nat) (a2:Nat×Nat),m=g.nodes.length-t∧t≤g.nodes.length∧rowB D P v s (allB D P g.nodes.length v s) t=some a2∧env=[(7,.ref 1 1 0 0),(8,.own 2 2 0 g.nodes.length),(9,.own 3 3 0 g.nodes.length),(12,.own 4 gO 0 v),(13,.int .i64 v),(14,.int .i64 (Ba g)[v]),(15,.ref 5 gS 0 0),(16,.int .i64 s),(60,.sl (decide (0<g.nodes.length)) (ints (Ba g))),(61,.int .i64 g.nodes.length),(62,.int .i64 v),(70,.int .i64 g.nodes.length),(71,.int .i64 s),(89,.int .i64 g.nodes.length),(90,.int .i64 t)]∧st=⟨Ags g.av (.agg [.sl (decide (0<g.nodes.length)) (ints (Ba g)),.sl true RW]) (KR g.nodes.length (Qk g.nodes.length D)) (KR g.nodes.length (rowP g.nodes.length P)) [.arr gO 3 (decide (0<v)) true (vs Rn (((Ba g).take v).zip l)),.arr gS 2 true true [fv a2]],c⟩) ?_ _ _ _ ⟨0,_,_,a,rfl,by omega,ha,by rw[← VY];first|rfl|(rw [VY];rfl),rfl⟩
 rintro _ _ _ ⟨t,c,gS,a2,rfl,ht,hr,rfl,rfl⟩
 refine⟨rfl,?_⟩
 by_cases htl:t<g.nodes.length
 case neg=>
  obtain rfl:t=g.nodes.length:=by omega
  have AdZ:allB D P g.nodes.length v (s+1)=some a2:=hr
  (conv=>whnf);repeat' (first  |(refine kA ?_;conv=>whnf)|(refine Br.mk (fun hc=>?_) fun hc=>?_<;>first|exact hc.elim|conv=>whnf)|(refine kB ?_))
  all_goals first
   |(exfalso;omega)
   |exact again.mk ⟨_,by omega,s+1,_,_,a2,rfl,by omega,AdZ,rfl,rfl⟩
 have Amj:(Dj g.nodes.length (D v))[t]'(by rw[lT];exact htl)=D v t:=BM _
 have Amk:(Dj g.nodes.length (D s))[t]'(by rw[lT];exact htl)=D s t:=BM _
 obtain⟨b1,b2⟩:=hDb hsl hvl
 obtain⟨b3,b4⟩:=hDb hvl htl
 obtain⟨b5,b6⟩:=hDb hsl htl
 by_cases ho:PS D v s t=true
 case neg=>
  have ho':PS D v s t=false:=Bool.eq_false_iff.2 ho
  have hoff:s=t∨t=v∨D v t<0∨D s t≠D s v+D v t:=by
   by_cases h1:s=t
   ·exact .inl h1
   by_cases h2:t=v
   ·exact .inr (.inl h2)
   by_cases h3:D v t<0
   ·exact .inr (.inr (.inl h3))
   by_cases h4:D s t=D s v+D v t
   ·exfalso
    apply ho
    unfold PS
    simp[h1,h2,Am1,Am2,h4,show 0≤D v t by omega]
   ·exact .inr (.inr (.inr h4))
  have hr':=WE hr ho'
  (conv=>whnf);repeat' (first|(refine Au nSd ?_;conv=>whnf)|(refine Au nVd ?_;conv=>whnf)|(refine kA ?_;conv=>whnf)|(refine Br.mk (fun hc=>?_) fun hc=>?_<;>first|exact hc.elim|conv=>whnf)|(refine kB ?_))
  all_goals first
   |(exfalso;omega)
   |exact again.mk ⟨_,by omega,t+1,_,_,a2,rfl,by omega,hr',rfl,rfl⟩
 have hon:=ho
 unfold PS at hon
 simp only[Bool.and_eq_true,decide_eq_true_eq]at hon
 obtain⟨⟨⟨⟨⟨o1,o2⟩,o3⟩,o4⟩,o5⟩,o6⟩:=hon
 obtain⟨q1,q2,q3,q4,q5,q6,q7⟩:=hsm hvl hsl htl ho
 have hVa:=hvn hvl hsl (by omega) hr
 have pA:=AkH hVa q1 q2 q3 q4
 have hr':=Ad1 hr ho
 have lPs:=lT (fun w=>(P s w:Int))
 have lPv:=lT (fun w=>(P v w:Int))
 have hprod:(Dj g.nodes.length (fun w=>(P s w:Int)))[v]'(by rw[lT];exact hvl)*(Dj g.nodes.length (fun w=>(P v w:Int)))[t]'(by rw[lT];exact htl)=((P s v*P v t:Nat):Int):=by
  rw[BM,BM,Int.natCast_mul]
 have AfP:(Dj g.nodes.length (fun w=>(P s w:Int)))[t]'(by rw[lT];exact htl)=((P s t:Nat):Int):=BM _
 have pO:=ofP (a:=P s v*P v t) (b:=P s t) (by unfold F9;omega) (by unfold F9;omega) q5
 have AhY:KN (P s v*P v t) (P s t)=shr P v s t:=rfl
 rw[AhY]at pO
 generalize P s v*P v t=pp at*
 generalize P s t=pt at*
 generalize shr P v s t=X at*
 unfold fv at pA pO
 cases hA:addN a2 X with
 |none=>
  rw[hA]at pA hr'
  have hno:=Agq hvl hsl (show t+1≤g.nodes.length by omega) hl hr'
  rw[hno]
  unfold Vh fv at pA
  unfold btW
  (conv=>whnf);repeat' (first|(refine Au nSd ?_;conv=>whnf)|(refine Au nVd ?_;conv=>whnf)|(refine Au nSp ?_;conv=>whnf)|(refine Au nVp ?_;conv=>whnf)|(rw [hprod];conv=>whnf)|(rw [AfP];conv=>whnf)|((first|refine Aa pO ?_|refine Aa pA ?_);rintro _ rfl;conv=>whnf)|(refine Ak X8 ?_;conv=>whnf)|(refine Ak JC ?_;conv=>whnf)|(refine Ak ZB ?_;conv=>whnf)|(refine Ak ZC ?_;conv=>whnf)|(refine Ak AeP ?_;conv=>whnf)|(refine kA ?_;conv=>whnf)|(refine Br.mk (fun hc=>?_) fun hc=>?_<;>first|exact hc.elim|conv=>whnf)|(refine kB ?_))
  all_goals first
   |(exfalso;omega)
   |rfl
 |some z=>
  rw[hA]at pA hr'
  unfold Vh fv at pA
  (conv=>whnf);repeat' (first|(refine Au nSd ?_;conv=>whnf)|(refine Au nVd ?_;conv=>whnf)|(refine Au nSp ?_;conv=>whnf)|(refine Au nVp ?_;conv=>whnf)|(rw [hprod];conv=>whnf)|(rw [AfP];conv=>whnf)|((first|refine Aa pO ?_|refine Aa pA ?_);rintro _ rfl;conv=>whnf)|(refine Ak X8 ?_;conv=>whnf)|(refine Ak JC ?_;conv=>whnf)|(refine Ak ZB ?_;conv=>whnf)|(refine Ak ZC ?_;conv=>whnf)|(refine Ak AeP ?_;conv=>whnf)|(refine kA ?_;conv=>whnf)|(refine Br.mk (fun hc=>?_) fun hc=>?_<;>first|exact hc.elim|conv=>whnf)|(refine kB ?_))
  all_goals first
   |(exfalso;omega)
   |exact again.mk ⟨_,by omega,t+1,_,_,z,rfl,by omega,hr',rfl,rfl⟩
theorem AfO {A:Nat→Nat→Bool} {n:Nat} (i:Nat):(Es A n i).cells.length=3:=rfl
theorem Vg {A:Nat→Nat→Bool} {n k:Nat} (h:k<n):nth (vs (Es A n) (List.range n)) (Int.toNat (Nat.cast k))=some (Es A n k):=by
 rw[nVN (by simpa using h)]
 simp
theorem AhW {b c:Bool} {l m:List Int} {d:Bool}:AL (.BR [.sl b (ints l),.sl c (ints m),.bool d]) (.BR [.sl b (ints l),.sl c (ints m),.bool d])=true:=by simp[AL,Gm,Jp]
theorem AhX {c:Bool} {m:List Int} {d:Bool}:AL (.BR [.sl c (ints m),.bool d]) (.BR [.sl c (ints m),.bool d])=true:=by simp[AL,Gm,Jp]
theorem AdX {k j:IntKind} {x y:Int}:AL (.agg [.int k x,.int j y]) (.agg [.int k x,.int j y])=true:=by simp[AL,Gm]
set_option maxHeartbeats 4000000 in
theorem AjU {A:Nat→Nat→Bool} {n s v t:Nat} {b:Bool} (hn:n≤12) (hs:s<n) (hv:v<n) (ht:t<n) (h1:s≠t) (h2:s≠v) (h3:t≠v):Ah (Ac tab) 78 [.sl b (vs (Es A n) (List.range n)),.int .i64 s,.int .i64 v,.int .i64 t] (· =fv (if PS (EG A n) v s t=true then shr (Et A n) v s t else(0,1))):=by
 have lT:∀f:Nat→Int,(Dj n f).length=n:=fun f=>Jb
 have nS:nth (vs (Es A n) (List.range n)) (Int.toNat (Nat.cast s))=some (Es A n s):=Vg hs
 have nV:nth (vs (Es A n) (List.range n)) (Int.toNat (Nat.cast v))=some (Es A n v):=Vg hv
 unfold Es at nS nV
 have lDs:=lT (EG A n s)
 have lDv:=lT (EG A n v)
 have lPs:=lT (fun w=>(Et A n s w:Int))
 have lPv:=lT (fun w=>(Et A n v w:Int))
 have Ami:(Dj n (EG A n s))[v]'(by rw[lT];exact hv)=EG A n s v:=BM _
 have Amj:(Dj n (EG A n v))[t]'(by rw[lT];exact ht)=EG A n v t:=BM _
 have Amk:(Dj n (EG A n s))[t]'(by rw[lT];exact ht)=EG A n s t:=BM _
 have b1:=PO (A:=A) hs hv
 have b2:=PO (A:=A) hv ht
 have b3:=PO (A:=A) hs ht
 have b4:=WC (A:=A) (n:=n) (i:=s) (v:=v)
 have b5:=WC (A:=A) (n:=n) (i:=v) (v:=t)
 have b6:=WC (A:=A) (n:=n) (i:=s) (v:=t)
 by_cases ho:PS (EG A n) v s t=true
 case neg=>
  have hoff:EG A n s t<0∨EG A n s v<0∨EG A n v t<0∨EG A n s v+EG A n v t≠EG A n s t:=by
   by_cases c2:EG A n s v<0
   ·exact .inr (.inl c2)
   by_cases c3:EG A n v t<0
   ·exact .inr (.inr (.inl c3))
   by_cases c4:EG A n s t=EG A n s v+EG A n v t
   ·exfalso
    apply ho
    unfold PS
    simp[h1,h2,h3,c4,show 0≤EG A n s v by omega,show 0≤EG A n v t by omega]
   ·exact .inr (.inr (.inr fun e=>c4 e.symm))
  rw[if_neg ho]
  refine Ad rfl rfl ?_
  (conv=>whnf);repeat' (first|(refine Au nS ?_;conv=>whnf)|(refine Au nV ?_;conv=>whnf)|(refine kA ?_;conv=>whnf)|(refine Br.mk (fun hc=>?_) fun hc=>?_<;>first|exact hc.elim|conv=>whnf)|(refine kB ?_))
  all_goals first|(exfalso;omega)|rfl
 rw[if_pos ho]
 obtain⟨q1,q2,q3,q4,q5,q6,q7⟩:=TV hn hv hs ht ho
 have hon:=ho
 unfold PS at hon
 simp only[Bool.and_eq_true,decide_eq_true_eq]at hon
 obtain⟨⟨⟨⟨⟨o1,o2⟩,o3⟩,o4⟩,o5⟩,o6⟩:=hon
 have hprod:(Dj n (fun w=>(Et A n s w:Int)))[v]'(by rw[lT];exact hv)*(Dj n (fun w=>(Et A n v w:Int)))[t]'(by rw[lT];exact ht)=((Et A n s v*Et A n v t:Nat):Int):=by
  rw[BM,BM,Int.natCast_mul]
 have AfP:(Dj n (fun w=>(Et A n s w:Int)))[t]'(by rw[lT];exact ht)=((Et A n s t:Nat):Int):=BM _
 have pO:=ofR (a:=Et A n s v*Et A n v t) (b:=Et A n s t) (by unfold F9;omega) (by unfold F9;omega) q5
 have AhY:KN (Et A n s v*Et A n v t) (Et A n s t)=shr (Et A n) v s t:=rfl
 rw[AhY]at pO
 generalize shr (Et A n) v s t=X at*
 generalize Et A n s v*Et A n v t=pp at*
 unfold fv at pO
 refine Ad rfl rfl ?_
 (conv=>whnf);repeat' (first|(refine Au nS ?_;conv=>whnf)|(refine Au nV ?_;conv=>whnf)|(rw [hprod];conv=>whnf)|(rw [AfP];conv=>whnf)|(refine Aa pO ?_;rintro _ rfl;conv=>whnf)|(refine Ak X8 ?_;conv=>whnf)|(refine Ak ZB ?_;conv=>whnf)|(refine Ak ZC ?_;conv=>whnf)|(refine Ak AhW ?_;conv=>whnf)|(refine Ak AhX ?_;conv=>whnf)|(refine kA ?_;conv=>whnf)|(refine Br.mk (fun hc=>?_) fun hc=>?_<;>first|exact hc.elim|conv=>whnf)|(refine kB ?_))
 all_goals first|(exfalso;omega)|rfl
set_option maxHeartbeats 4000000 in
theorem AdY {A:Nat→Nat→Bool} {n v:Nat} {b:Bool} (hn:n≤12) (hv:v<n):Ah (Ac tab) 37 [.sl b (vs (Es A n) (List.range n)),.int .i64 v] (fun w=>match allB (EG A n) (Et A n) n v n with|some a=>w=.Ce [fv a,.bool true]|none=>∃x,w=.Ce [fv x,.bool false]):=by
 have hrl:(List.range n).length=n:=List.length_range
 refine Ad rfl rfl ?_
 (conv=>whnf);repeat' (first  |(refine kA ?_;conv=>whnf)|(refine Br.mk (fun hc=>?_) fun hc=>?_<;>first|exact hc.elim|conv=>whnf)|(refine kB ?_))
 refine Ai (fun m env st=>∃(s c:Nat) (a:Nat×Nat),m=n-s∧s≤n∧allB (EG A n) (Et A n) n v s=some a∧env=[(0,.sl b (vs (Es A n) (List.range n))),(1,.int .i64 v),(4,.ref 0 0 0 0),(6,.ref 1 1 0 0),(7,.int .i64 s)]∧st=⟨[.arr 0 2 true true [.agg [.int .i64 0,.int .i64 0]],.arr 1 2 true true [fv a]],c⟩) ?_ _ _ _ ⟨0,_,(0,1),rfl,by omega,rfl,rfl,rfl⟩
 rintro _ _ _ ⟨s,c,a,rfl,hs,ha,rfl,rfl⟩
 refine⟨rfl,?_⟩
 by_cases hsl:s<n
 case neg=>
  obtain rfl:s=n:=by omega
  rw[ha]
  unfold fv
  (conv=>whnf);repeat' (first  |(refine kA ?_;conv=>whnf)|(refine Br.mk (fun hc=>?_) fun hc=>?_<;>first|exact hc.elim|conv=>whnf)|(refine kB ?_))
  all_goals first|(exfalso;omega)|rfl
 (conv=>whnf);repeat' (first  |(refine kA ?_;conv=>whnf)|(refine Br.mk (fun hc=>?_) fun hc=>?_<;>first|exact hc.elim|conv=>whnf)|(refine kB ?_))
 all_goals first|(exfalso;omega)|skip
 refine Ai (fun m env st=>∃(t c:Nat) (a2:Nat×Nat),m=n-t∧t≤n∧rowB (EG A n) (Et A n) v s (allB (EG A n) (Et A n) n v s) t=some a2∧env=[(0,.sl b (vs (Es A n) (List.range n))),(1,.int .i64 v),(4,.ref 0 0 0 0),(6,.ref 1 1 0 0),(7,.int .i64 s),(8,.int .i64 t)]∧st=⟨[.arr 0 2 true true [.agg [.int .i64 0,.int .i64 0]],.arr 1 2 true true [fv a2]],c⟩) ?_ _ _ _ ⟨0,_,a,rfl,by omega,ha,rfl,rfl⟩
 rintro _ _ _ ⟨t,c,a2,rfl,ht,hr,rfl,rfl⟩
 refine⟨rfl,?_⟩
 by_cases htl:t<n
 case neg=>
  obtain rfl:t=n:=by omega
  have AdZ:allB (EG A t) (Et A t) t v (s+1)=some a2:=hr
  (conv=>whnf);repeat' (first  |(refine kA ?_;conv=>whnf)|(refine Br.mk (fun hc=>?_) fun hc=>?_<;>first|exact hc.elim|conv=>whnf)|(refine kB ?_))
  all_goals first
   |(exfalso;omega)
   |exact again.mk ⟨_,by omega,s+1,_,a2,rfl,by omega,AdZ,rfl,rfl⟩
 by_cases hc:s=t∨s=v∨t=v
 ·have ho:PS (EG A n) v s t=false:=by
   unfold PS
   rcases hc with h|h|h<;>simp[h]
  have hr':=WE hr ho
  (conv=>whnf);repeat' (first  |(refine kA ?_;conv=>whnf)|(refine Br.mk (fun hc=>?_) fun hc=>?_<;>first|exact hc.elim|conv=>whnf)|(refine kB ?_))
  all_goals first
   |(exfalso;omega)
   |exact again.mk ⟨_,by omega,t+1,_,a2,rfl,by omega,hr',rfl,rfl⟩
 have hc1:s≠t:=fun e=>hc (.inl e)
 have hc2:s≠v:=fun e=>hc (.inr (.inl e))
 have hc3:t≠v:=fun e=>hc (.inr (.inr e))
 have pT:=AjU (A:=A) (b:=b) hn hsl hv htl hc1 hc2 hc3
 have hVa:=Ad0 (A:=A) hn hv hsl ht hr
 have hX:Uw (if PS (EG A n) v s t=true then shr (Et A n) v s t else(0,1))∧rowB (EG A n) (Et A n) v s (allB (EG A n) (Et A n) n v s) (t+1)=addN a2 (if PS (EG A n) v s t=true then shr (Et A n) v s t else(0,1)):=by
  by_cases ho:PS (EG A n) v s t=true
  ·rw[if_pos ho]
   exact⟨(TV hn hv hsl htl ho).1,Ad1 hr ho⟩
  ·rw[if_neg ho,Ab1 hVa]
   exact⟨⟨by decide,by decide,by decide,by decide⟩,WE hr (Bool.eq_false_iff.2 ho)⟩
 generalize (if PS (EG A n) v s t=true then shr (Et A n) v s t else(0,1))=X at*
 obtain⟨hX1,hr'⟩:=hX
 have pA:=AjV hVa hX1
 unfold fv at pA pT
 cases hA:addN a2 X with
 |none=>
  rw[hA]at pA hr'
  have hno:allB (EG A n) (Et A n) n v n=none:=PV (k:=s+1) (PU hr' (show t+1≤n by omega)) (by omega)
  rw[hno]
  unfold Vh fv at pA
  (conv=>whnf);repeat' (first|((first|refine Aa pT ?_|refine Aa pA ?_);rintro _ rfl;conv=>whnf)|(refine Ak AdX ?_;conv=>whnf)|(refine kA ?_;conv=>whnf)|(refine Br.mk (fun hc=>?_) fun hc=>?_<;>first|exact hc.elim|conv=>whnf)|(refine kB ?_))
  all_goals first
   |(exfalso;omega)
   |exact⟨a2,rfl⟩
 |some z=>
  rw[hA]at pA hr'
  unfold Vh fv at pA
  (conv=>whnf);repeat' (first|((first|refine Aa pT ?_|refine Aa pA ?_);rintro _ rfl;conv=>whnf)|(refine Ak AdX ?_;conv=>whnf)|(refine kA ?_;conv=>whnf)|(refine Br.mk (fun hc=>?_) fun hc=>?_<;>first|exact hc.elim|conv=>whnf)|(refine kB ?_))
  all_goals first
   |(exfalso;omega)
   |exact again.mk ⟨_,by omega,t+1,_,z,rfl,by omega,hr',rfl,rfl⟩
set_option maxHeartbeats 4000000 in
theorem Aml {g:GG} (hg:g.ok) (hN:g.nodes.length≤12) {types:List (List UInt8)} {tn:Bool} (ht:types.length<2^63):Ah (Ac tab) 12 [g.av,.sl tn (vs .str types)] (· =btG types g):=by
 have pk:=AcD hg
 unfold btG
 by_cases hck:Bd g=0
 case neg=>
  rw[if_neg hck]
  generalize Bd g=e0 at pk hck
  refine Ad rfl rfl ?_
  (conv=>whnf);repeat' (first|(refine Aa pk ?_;rintro _ rfl;conv=>whnf)|(refine kA ?_;conv=>whnf)|(refine Br.mk (fun hc=>?_) fun hc=>?_<;>first|exact hc.elim|conv=>whnf)|(refine kB ?_))
  all_goals first|rfl|(exfalso;omega)
 rw[if_pos hck]
 rw[hck]at pk
 have pT:=AcE (tn:=tn) hg (by omega:g.nodes.length≤1000) ht
 have pt:∀q,q<g.nodes.length→_:=fun q hq=>Agw (tn:=decide (0<g.nodes.length)) (Z9 (types:=types) (by omega:g.nodes.length≤1000)) RD hN hq
 simp only[Xk]at pt
 have pB:∀v,v<g.nodes.length→∀b,_:=fun v hv b=>AdY (A:=DI types g) (b:=b) hN hv
 have hTl:(Gs types g).length=g.nodes.length:=RD
 have hln:=hg.1
 unfold Ln at hln
 generalize DI types g=A at*
 generalize Gs types g=TT at*
 refine Ad rfl rfl ?_
 (conv=>whnf);repeat' (first|((first|refine Aa pk ?_|refine Aa pT ?_);rintro _ rfl;conv=>whnf)|(refine kA ?_;conv=>whnf)|(refine Br.mk (fun hc=>?_) fun hc=>?_<;>first|exact hc.elim|conv=>whnf)|(refine kB ?_))
 all_goals first|(exfalso;omega)|skip
 refine Ai (fun m env s=>∃(k c gl:Nat),m=g.nodes.length-k∧k≤g.nodes.length∧env=[(2,.ref 0 0 0 0),(7,.sl (decide (0<g.nodes.length)) (vs UL TT)),(8,.own 1 gl 0 k),(9,.int .i64 k)]∧s=⟨[.arr 0 4 true true [g.av],.arr gl 3 (decide (0<k)) true (vs (Es A g.nodes.length) (List.range k))],c⟩) ?_ _ _ _ ⟨0,_,_,rfl,by omega,rfl,rfl⟩
 rintro _ _ _ ⟨k,c,gl,rfl,hk,rfl,rfl⟩
 refine⟨rfl,?_⟩
 have hrk:(List.range k).length=k:=List.length_range
 by_cases hkl:k<g.nodes.length
 ·have pq:=pt k hkl
  unfold Es at pq
  (conv=>whnf);repeat' (first|(refine Aa pq ?_;rintro _ rfl;conv=>whnf)|(refine Sm (f:=Es A g.nodes.length) (l:=List.range k) (x:=k) AfO (by rw[hrk]) (by omega) ?_;rw[hrk,←List.range_succ];conv=>whnf)|(refine kA ?_;conv=>whnf)|(refine Br.mk (fun hc=>?_) fun hc=>?_<;>first|exact hc.elim|conv=>whnf)|(refine kB ?_))
  all_goals first
   |(exfalso;omega)
   |exact again.mk ⟨_,by omega,k+1,_,_,rfl,by omega,rfl,by rw[decide_eq_true (show 0<k+1 by omega)]⟩
 obtain rfl:k=g.nodes.length:=by omega
 clear hk hkl pt pT pk
 (conv=>whnf);repeat' (first  |(refine kA ?_;conv=>whnf)|(refine Br.mk (fun hc=>?_) fun hc=>?_<;>first|exact hc.elim|conv=>whnf)|(refine kB ?_))
 all_goals first|(exfalso;omega)|skip
 refine Ai (fun m env s=>∃(v c gO:Nat) (l:List (Nat×Nat)),m=g.nodes.length-v∧v≤g.nodes.length∧Xm (EG A g.nodes.length) (Et A g.nodes.length) g.nodes.length v=some l∧env=[(2,.ref 0 0 0 0),(7,.sl (decide (0<g.nodes.length)) (vs UL TT)),(8,.own 1 gl 0 g.nodes.length),(11,.own 2 gO 0 v),(12,.int .i64 v)]∧s=⟨[.arr 0 4 true true [g.av],.arr gl 3 (decide (0<g.nodes.length)) true (vs (Es A g.nodes.length) (List.range g.nodes.length)),.arr gO 3 (decide (0<v)) true (vs Rn (((Ba g).take v).zip l))],c⟩) ?_ _ _ _ ⟨0,_,_,[],rfl,by omega,rfl,rfl,rfl⟩
 rintro _ _ _ ⟨v,c,gO,l,rfl,hv,hl,rfl,rfl⟩
 refine⟨rfl,?_⟩
 have VY:=CV g
 have hll:=VL hl
 have hzl:(((Ba g).take v).zip l).length=v:=by rw[List.length_zip,List.length_take];omega
 by_cases hvl:v<g.nodes.length
 case neg=>
  obtain rfl:v=g.nodes.length:=by omega
  rw[List.take_of_length_le (by omega)]at hzl ⊢
  rw[hl]
  unfold btW
  have hsv:sub (vs Rn ((Ba g).zip l)) 0 g.nodes.length=vs Rn ((Ba g).zip l):=by
   have:sub (vs Rn ((Ba g).zip l)) 0 ((Ba g).zip l).length=vs Rn ((Ba g).zip l):=uV
   rwa [hzl]at this
  (conv=>whnf);repeat' (first|(refine Ak ⟨rfl,by rw[lV];omega⟩ ?_;conv=>whnf)|(refine AU hsv ?_;conv=>whnf)|(refine kA ?_;conv=>whnf)|(refine Br.mk (fun hc=>?_) fun hc=>?_<;>first|exact hc.elim|conv=>whnf)|(refine kB ?_))
  all_goals first|(exfalso;omega)|rfl
 have hvi:v<(Ba g).length:=by omega
 have hid:(Ba g)[v]=(g.nodes[v]).id:=Gg hvl
 have hsub:sub (vs (Es A g.nodes.length) (List.range g.nodes.length)) 0 g.nodes.length=vs (Es A g.nodes.length) (List.range g.nodes.length):=by
  have:sub (vs (Es A g.nodes.length) (List.range g.nodes.length)) 0 (List.range g.nodes.length).length=vs (Es A g.nodes.length) (List.range g.nodes.length):=uV
  rwa [hrk]at this
 have pv:=pB v hvl (decide (0<g.nodes.length))
 cases ha:allB (EG A g.nodes.length) (Et A g.nodes.length) g.nodes.length v g.nodes.length with
 |none=>
  rw[ha]at pv
  have hno:Xm (EG A g.nodes.length) (Et A g.nodes.length) g.nodes.length g.nodes.length=none:=by
   refine RF (k:=v+1) ?_ (by omega)
   show(Xm _ _ _ v).bind _=none
   rw[hl]
   show(allB _ _ _ v _).map _=none
   rw[ha];rfl
  rw[hno]
  unfold btW
  obtain⟨_,⟨x,rfl⟩,pv⟩:=pv.YI
  unfold fv at pv
  (conv=>whnf);repeat' (first|(refine Ak ⟨rfl,by rw[lV,hrk];omega⟩ ?_;conv=>whnf)|(refine AU hsub ?_;conv=>whnf)|(refine Aa pv ?_;rintro _ rfl;conv=>whnf)|(refine kA ?_;conv=>whnf)|(refine Br.mk (fun hc=>?_) fun hc=>?_<;>first|exact hc.elim|conv=>whnf)|(refine kB ?_))
  all_goals first|(exfalso;omega)|rfl
 |some a=>
  rw[ha]at pv
  have hl':=AaI hl ha
  have hsn:((Ba g).take (v+1)).zip (l++[a])=((Ba g).take v).zip l++[((g.nodes[v]).id,a)]:=by
   rw[List.take_succ_eq_append_getElem hvi,List.zip_append (by rw[List.length_take];omega),hid];rfl
  have pv:Ah (Ac tab) 37 [.sl (decide (0<g.nodes.length)) (vs (Es A g.nodes.length) (List.range g.nodes.length)),.int .i64 v] (· =.Ce [fv a,.bool true]):=pv
  unfold fv at pv
  (conv=>whnf);repeat' (first|(refine Ak ⟨rfl,by rw[lV,hrk];omega⟩ ?_;conv=>whnf)|(refine AU hsub ?_;conv=>whnf)|(refine Aa pv ?_;rintro _ rfl;conv=>whnf)|(refine Sm (f:=Rn) (l:=((Ba g).take v).zip l) (x:=((g.nodes[v]).id,a)) AaJ (by omega) (by omega) ?_;rw[hzl,←hsn];conv=>whnf)|(refine kA ?_;conv=>whnf)|(refine Br.mk (fun hc=>?_) fun hc=>?_<;>first|exact hc.elim|conv=>whnf)|(refine kB ?_))
  all_goals first
   |(exfalso;omega)
   |exact again.mk ⟨_,by omega,v+1,_,_,l++[a],rfl,by omega,hl',rfl,by rw[decide_eq_true (show 0<v+1 by omega)]⟩
def IC (b:Bool):Nat:=if b then 1 else 0
def Uy (N:Int→Int→Bool) (l:List Int) (v:Int):Nat:=(l.map fun x=>(l.map fun y=>IC (N v x&&(N v y&&N x y))).sum).sum
theorem Q7 {p:Int→Bool}:∀{l:List Int},(l.map fun y=>IC (p y)).sum=(l.filter p).length
 |[]=>rfl
 |x::l=>by
  have:=Q7 (p:=p) (l:=l)
  simp only[List.map_cons,List.sum_cons,List.filter_cons,this]
  cases p x<;>simp[IC];omega
theorem sum_add {f g:Int→Nat}:∀{l:List Int},(l.map fun y=>f y+g y).sum=(l.map f).sum+(l.map g).sum
 |[]=>rfl
 |x::l=>by
  have:=sum_add (f:=f) (g:=g) (l:=l)
  simp only[List.map_cons,List.sum_cons,this]
  omega
theorem Xx {f:Int→Nat} {l:List Int} (h:∀x∈l,f x=0):(l.map f).sum=0:=by
 induction l with
 |nil=>rfl
 |cons a l ih=>simp[h a (by simp),ih fun x hx=>h x (by simp[hx])]
theorem V8 {f:Int→Nat} {b:Int}:∀{l:List Int},l.Nodup→b∈l→(l.map fun x=>if x=b then f x else 0).sum=f b
 |[],_,h=>by cases h
 |x::l,hn,h=>by
  rw[List.nodup_cons]at hn
  simp only[List.map_cons,List.sum_cons]
  by_cases e:x=b
  ·subst e
   rw[if_pos rfl,Xx fun y hy=>if_neg (fun e=>hn.1 (by rw[← e];exact hy))]
   rfl
  ·rw[if_neg e,V8 hn.2 (by rcases List.mem_cons.1 h with h|h;exact absurd h.symm e;exact h)]
   omega
theorem Aai {p:Int→Bool} {b:Int} {l:List Int} (hn:l.Nodup) (hb:b∈l):(l.map fun x=>(l.map fun y=>IC (decide (x=b)&&p y)).sum).sum=(l.filter p).length:=by
 have:(l.map fun x=>(l.map fun y=>IC (decide (x=b)&&p y)).sum)=l.map fun x=>if x=b then(l.filter p).length else 0:=by
  refine List.map_congr_left fun x _=>?_
  by_cases e:x=b
  ·rw[if_pos e,←Q7];simp[e]
  ·rw[if_neg e];exact Xx fun y _=>by simp[e,IC]
 rw[this,V8 (f:=fun _=>(l.filter p).length) hn hb]
theorem Afi {p:Int→Bool} {b:Int} {l:List Int} (hn:l.Nodup) (hb:b∈l):(l.map fun x=>(l.map fun y=>IC (decide (y=b)&&p x)).sum).sum=(l.filter p).length:=by
 have:(l.map fun x=>(l.map fun y=>IC (decide (y=b)&&p x)).sum)=l.map fun x=>IC (p x):=by
  refine List.map_congr_left fun x _=>?_
  have h:(l.map fun y=>IC (decide (y=b)&&p x))=l.map fun y=>if y=b then IC (p x)else 0:=List.map_congr_left fun y _=>by
   by_cases e:y=b<;>simp[e,IC]
  rw[h,V8 (f:=fun _=>IC (p x)) hn hb]
 rw[this,Q7]
section
variable {N M:Int→Int→Bool} {l:List Int} {a b:Int}
structure H9 (N M:Int→Int→Bool) (a b:Int):Prop where
 ne:a≠b
 sN:∀x y,N x y=N y x
 iN:∀x,N x x=false
 no:N a b=false
 up:∀x y,M x y=(N x y||(decide (x=a)&&decide (y=b)||decide (x=b)&&decide (y=a)))
theorem H9.flip (h:H9 N M a b):H9 N M b a:=⟨h.ne.symm,h.sN,h.iN,by rw[h.sN];exact h.no,fun x y=>by rw[h.up,Bool.or_comm (decide (x=a)&&_)]⟩
theorem H9.at_end (h:H9 N M a b) (hn:l.Nodup) (hb:b∈l):Uy M l a=Uy N l a+2*(l.filter fun x=>N a x&&N b x).length:=by
 have hp:∀x y,IC (M a x&&(M a y&&M x y))=IC (N a x&&(N a y&&N x y))+(IC (decide (x=b)&&(N a y&&N b y))+IC (decide (y=b)&&(N a x&&N b x))):=fun x y=>by
  have e1:=h.ne
  have e2:=h.iN a
  have e3:=h.iN b
  have e4:=h.no
  have e5:N b a=false:=by rw[h.sN];exact e4
  rw[h.up,h.up,h.up]
  by_cases hxa:x=a
  ·subst hxa
   simp[e1,e2,e5,IC]
  by_cases hya:y=a
  ·subst hya
   simp[e1,e2,e5,IC]
  by_cases hxb:x=b
  ·subst hxb
   by_cases hyb:y=x
   ·subst hyb
    simp[hxa,e3,e4,IC]
   ·simp[hxa,hya,hyb,e4,IC]
  ·by_cases hyb:y=b
   ·subst hyb
    simp[hxa,hya,hxb,e4,IC,h.sN x y]
   ·simp[hxa,hya,hxb,hyb,IC]
 unfold Uy
 have e:(l.map fun x=>(l.map fun y=>IC (M a x&&(M a y&&M x y))).sum)=l.map fun x=>(l.map fun y=>IC (N a x&&(N a y&&N x y))).sum+((l.map fun y=>IC (decide (x=b)&&(N a y&&N b y))).sum+(l.map fun y=>IC (decide (y=b)&&(N a x&&N b x))).sum):=by
  refine List.map_congr_left fun x _=>?_
  rw[← sum_add,←sum_add]
  exact congrArg List.sum (List.map_congr_left fun y _=>hp x y)
 rw[e,sum_add,sum_add,Aai (p:=fun y=>N a y&&N b y) hn hb,Afi (p:=fun x=>N a x&&N b x) hn hb]
 omega
theorem H9.Afj (h:H9 N M a b) (hn:l.Nodup) (ha:a∈l) (hb:b∈l) {v:Int} (va:v≠a) (vb:v≠b):Uy M l v=Uy N l v+2*IC (N a v&&N b v):=by
 have hp:∀x y,IC (M v x&&(M v y&&M x y))=IC (N v x&&(N v y&&N x y))+(IC (decide (x=a)&&(decide (y=b)&&(N a v&&N b v)))+IC (decide (x=b)&&(decide (y=a)&&(N a v&&N b v)))):=fun x y=>by
  have e4:=h.no
  have e5:N b a=false:=by rw[h.sN];exact e4
  have e1:=h.ne
  have e1':=h.ne.symm
  have s1:=h.sN v a
  have s2:=h.sN v b
  rw[h.up,h.up,h.up]
  simp only[va,vb,decide_false,Bool.false_and,Bool.or_false]
  by_cases hxa:x=a
  ·subst hxa
   by_cases hyb:y=b
   ·subst hyb
    simp[e4,e1,e1',s1,s2,IC]
   ·simp[hyb,e1,IC]
  by_cases hxb:x=b
  ·subst hxb
   by_cases hya:y=a
   ·subst hya
    simp[e5,e1,e1',s1,s2,IC,Bool.and_comm]
   ·simp[hya,hxa,IC]
  ·simp[hxa,hxb,IC]
 have one:∀{a b:Int} {q:Bool},a∈l→b∈l→(l.map fun x=>(l.map fun y=>IC (decide (x=a)&&(decide (y=b)&&q))).sum).sum=IC q:=fun{a b q} ha hb=>by
  rw[Aai (p:=fun y=>decide (y=b)&&q) hn ha,←Q7]
  have h:(l.map fun y=>IC (decide (y=b)&&q))=l.map fun y=>if y=b then IC q else 0:=List.map_congr_left fun y _=>by
   by_cases e:y=b<;>simp[e,IC]
  rw[h,V8 (f:=fun _=>IC q) hn hb]
 unfold Uy
 have e:(l.map fun x=>(l.map fun y=>IC (M v x&&(M v y&&M x y))).sum)=l.map fun x=>(l.map fun y=>IC (N v x&&(N v y&&N x y))).sum+((l.map fun y=>IC (decide (x=a)&&(decide (y=b)&&(N a v&&N b v)))).sum+(l.map fun y=>IC (decide (x=b)&&(decide (y=a)&&(N a v&&N b v)))).sum):=by
  refine List.map_congr_left fun x _=>?_
  rw[← sum_add,←sum_add]
  exact congrArg List.sum (List.map_congr_left fun y _=>hp x y)
 rw[e,sum_add,sum_add,one ha hb,one hb ha]
 omega
end
def trO (N:Int→Int→Bool) (l:List Int):List (Int×Int):=l.map fun v=>(v,((Uy N l v / 2:Nat):Int))
section
variable {N M:Int→Int→Bool} {l:List Int} {a b:Int}
def stepT (a b:Int) (C:List Int) (s:Int) (p:Int×Int):Int×Int:=if p.1=a∨p.1=b then(p.1,p.2+s*C.length)else if p.1∈C then(p.1,p.2+s)else p
theorem H9.tr (h:H9 N M a b) (hn:l.Nodup) (ha:a∈l) (hb:b∈l) {C:List Int} (hC:C.length=(l.filter fun x=>N a x&&N b x).length) (hm:∀x∈l,x∈C↔(N a x&&N b x)=true):
 trO M l=(trO N l).map (stepT a b C 1)∧trO N l=(trO M l).map (stepT a b C (-1)):=by
 have key:∀v∈l,(v=a∨v=b)∧Uy M l v=Uy N l v+2*C.length∨¬(v=a∨v=b)∧v∈C∧Uy M l v=Uy N l v+2∨¬(v=a∨v=b)∧v∉C∧Uy M l v=Uy N l v:=fun v hv=>by
  by_cases h1:v=a
  ·subst h1
   exact .inl ⟨.inl rfl,by rw[h.at_end hn hb,hC]⟩
  by_cases h2:v=b
  ·subst h2
   refine .inl ⟨.inr rfl,?_⟩
   rw[h.flip.at_end hn ha,hC]
   rw[List.filter_congr fun x _=>Bool.and_comm (N v x) (N a x)]
  have h3:=h.Afj hn ha hb h1 h2
  have hne:¬(v=a∨v=b):=fun e=>e.elim h1 h2
  by_cases h4:v∈C
  ·refine .inr (.inl ⟨hne,h4,?_⟩)
   rw[h3,(hm v hv).1 h4];rfl
  ·refine .inr (.inr ⟨hne,h4,?_⟩)
   rw[h3,Bool.eq_false_iff.2 (fun e=>h4 ((hm v hv).2 e))];rfl
 unfold trO
 constructor
 ·rw[List.map_map]
  refine List.map_congr_left fun v hv=>?_
  show _=stepT a b C 1 (v,_)
  unfold stepT
  rcases key v hv with⟨k1,k2⟩|⟨k1,k2,k3⟩|⟨k1,k2,k3⟩
  ·rw[if_pos k1,k2]
   refine Prod.ext rfl ?_
   show(((Uy N l v+2*C.length) / 2:Nat):Int)=((Uy N l v / 2:Nat):Int)+1*(C.length:Int)
   omega
  ·rw[if_neg k1,if_pos k2,k3]
   refine Prod.ext rfl ?_
   show(((Uy N l v+2) / 2:Nat):Int)=((Uy N l v / 2:Nat):Int)+1
   omega
  ·rw[if_neg k1,if_neg k2,k3]
 ·rw[List.map_map]
  refine List.map_congr_left fun v hv=>?_
  show _=stepT a b C (-1) (v,_)
  unfold stepT
  rcases key v hv with⟨k1,k2⟩|⟨k1,k2,k3⟩|⟨k1,k2,k3⟩
  ·rw[if_pos k1,k2]
   refine Prod.ext rfl ?_
   show((Uy N l v / 2:Nat):Int)=(((Uy N l v+2*C.length) / 2:Nat):Int)+-1*(C.length:Int)
   omega
  ·rw[if_neg k1,if_pos k2,k3]
   refine Prod.ext rfl ?_
   show((Uy N l v / 2:Nat):Int)=(((Uy N l v+2) / 2:Nat):Int)+-1
   omega
  ·rw[if_neg k1,if_neg k2,k3]
end
theorem min_self (A:Int):AbO A A=A:=by unfold AbO;split<;>omega
end AI
end Go.Proofs.YtchcadfjbkkgmaaGreatDoor
