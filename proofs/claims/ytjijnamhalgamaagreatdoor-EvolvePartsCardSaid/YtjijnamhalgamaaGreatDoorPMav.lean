/- Migrations one after the other, as plain functions. Slices within reach; clones of values, properties, strings; looking up a node of any graph. Copies: of any values, of properties, of a graph (evolve.copied). Migrations one after the other: the program's Apply. The worked example in the laws about migrations: reckoned by the kernel. The rules that a migration leaves: the reference's Rules. The rules that a migration leaves: the reference's Rules, proved. The law EvolveRules, about the evaluator. -/
import Derived.Test.YtjijnamhalgamaaGreatDoorPMaj
import Derived.Test.YtjijnamhalgamaaGreatDoorPMam
import Derived.Test.YtjijnamhalgamaaGreatDoorPMao
import Derived.Test.YtjijnamhalgamaaGreatDoorPMas
import Derived.Test.YtjijnamhalgamaaGreatDoorPMat
import Derived.Test.YtjijnamhalgamaaGreatDoorPMau
import Derived.Test.YtjijnamhalgamaaGreatDoorPMad
import Derived.Test.YtjijnamhalgamaaGreatDoorBMaa
import Derived.Test.YtjijnamhalgamaaGreatDoorPMae
import Derived.Test.YtjijnamhalgamaaGreatDoorPGrCode
set_option linter.unusedVariables false
set_option maxRecDepth 4000
namespace Go.Proofs.YtjijnamhalgamaaGreatDoor
namespace AI
theorem OL:EJ.ok:=⟨by simp[Ln,EJ],fun _=>rfl,by simp[EJ],by simp[Ln,EJ],fun _=>rfl,by simp[EJ],by unfold I64 EJ;dsimp only;omega,by unfold I64 EJ;dsimp only;omega⟩
theorem LD {s:List UInt8} {m:GM} (hs:Ln s) (hm:m.ok):Ln (Dn s m):=by
 unfold Dn;split
 ·exact hm.2.2.2.1
 ·exact hs
theorem Agf {r:GR} {m:GM} (hr:r.ok) (hm:m.ok):(Es r m).ok:=by
 obtain⟨h1,h2,h3,h4,h5,h6⟩:=hr
 unfold Es
 split
 ·split
  ·exact⟨h1,h2,LD h3 hm,h4,h5,h6⟩
  ·split
   ·exact⟨h1,h2,h3,h4,LD h5 hm,LD h6 hm⟩
   ·exact⟨h1,h2,h3,h4,h5,h6⟩
 ·split
  ·split
   ·exact⟨h1,h2,h3,h4,h5,h6⟩
   ·exact⟨h1,h2,LD h3 hm,h4,h5,h6⟩
  ·split
   ·split
    ·exact⟨h1,h2,h3,LD h4 hm,h5,h6⟩
    ·exact⟨h1,h2,h3,h4,h5,h6⟩
   ·exact⟨h1,h2,h3,h4,h5,h6⟩
theorem Agg {s:List GR} {m:GM} (hs:∀r∈s,r.ok) (hm:m.ok) {y:GR} (h:OM s m y):y.ok:=by
 unfold OM at h
 split at h
 ·rcases h with h|rfl
  ·exact hs _ h
  ·exact hm.2.2.2.2.2
 ·split at h
  ·exact hs _ h.1
  ·obtain⟨r,hr,_,rfl⟩:=Ajq.1 h
   exact Agf (hs r hr) hm
def isW (s:List GR) (m:GM) (W:List GR):Prop:=W.Pairwise (fun x y=>BZ x y=true)∧W.length<2^61∧∀y,y∈W↔OM s m y
noncomputable def Lp (s:List GR) (m:GM):List GR:=by
 classical exact if h:∃W,isW s m W then Classical.choose h else[]
theorem Aal {s:List GR} {m:GM} {W:List GR} (h:isW s m W):Lp s m=W:=by
 have hx:∃W,isW s m W:=⟨W,h⟩
 unfold Lp
 rw[dif_pos hx]
 have k:=Classical.choose_spec hx
 exact NC EK k.1 h.1 fun y=>(k.2.2 y).trans (h.2.2 y).symm
theorem Ac2 {s:List GR} {m:GM} {y:GR} (h:y∈Lp s m):OM s m y:=by
 unfold Lp at h
 split at h
 ·rename_i hx
  exact((Classical.choose_spec hx).2.2 y).1 h
 ·cases h
theorem Aam {s:List GR} {m:GM} (hs:∀r∈s,r.ok) (hm:m.ok):∀r∈Lp s m,r.ok:=fun r hr=>Agg hs hm (Ac2 hr)
theorem Xm {s:List GR} {m:GM}:(Lp s m).length<2^61:=by
 unfold Lp
 split
 ·rename_i hx
  exact(Classical.choose_spec hx).2.1
 ·simp
theorem Ajr {l:List GR} {nn:Bool} {m:GM} (hnn:nn=false→l=[]) (hl:l.length<2^61) (hok:∀r∈l,r.ok) (hm:m.ok):Ae (Ad tab) 24 [.sl nn (vs GR.av l),m.av]
 (fun v=>∃b,v=.BF [.sl b (vs GR.av (if JV l m=0 then Lp l m else[])),.int .i64 (JV l m)]∧(b=false→(if JV l m=0 then Lp l m else[])=[])):=by
 obtain⟨v,⟨h1,h2⟩,p⟩:=(Ajs hnn hl hok hm).LG
 refine p.mono ?_
 rintro _ rfl
 by_cases h0:JV l m=0
 ·obtain⟨b,W,rfl,s1,l1,m1⟩:=h1.2 h0
  have e:=Aal (s:=l) (m:=m) ⟨s1,l1,m1⟩
  rw[if_pos h0,e,h0]
  exact⟨b,rfl,fun hb=>by
   have:=h2 b _ _ rfl hb
   cases W with
   |nil=>rfl
   |cons x T=>simp[vs]at this⟩
 ·rw[if_neg h0,h1.1 h0]
  exact⟨false,rfl,fun _=>rfl⟩
theorem NY:V0.ok:=by unfold GV.ok V0 I64 Ln;dsimp only;refine⟨by omega,by omega,by omega,by simp,by simp,fun _=>rfl,by simp⟩
theorem Agh {P:List GP} (h:∀p∈P,p.ok) {k:List UInt8}:(Il P k).ok:=by
 unfold Il
 cases hf:P.find? (isK k)with
 |none=>exact NY
 |some p=>exact(h p (List.mem_of_find?_eq_some hf)).2
theorem NZ {op z:Int} {k:List UInt8} {v:GV} (h1:I64 op) (h2:I64 z) (h3:Ln k) (h4:v.ok):(Uw op z k v).ok:=⟨h1,h2,by unfold I64 Uw;dsimp only;omega,by unfold I64 Uw;dsimp only;omega,h3,h4⟩
theorem RJ {n:Int} (h:0≤n∧n≤10):I64 n:=by unfold I64;omega
theorem Ac3 {n:GN} {m:GM} (hn:n.ok) (hm:m.ok):∀c∈CS n m,c.ok:=by
 obtain⟨n1,n2,n3,n4,n5,n6,n7⟩:=hn
 obtain⟨m1,m2,m3,m4,m5,m6⟩:=hm
 unfold CS
 intro c hc
 split at hc
 ·split at hc
  ·simp only[List.mem_cons,List.not_mem_nil,or_false]at hc
   rcases hc with rfl|rfl
   ·exact NZ (RJ (by omega)) n1 m3 NY
   ·exact NZ (RJ (by omega)) n1 m4 NY
  ·cases hc
 split at hc
 ·cases hc
 split at hc
 ·split at hc
  ·simp only[List.mem_cons,List.not_mem_nil,or_false]at hc
   rcases hc with rfl|rfl
   ·exact NZ (RJ (by omega)) n1 m3 NY
   ·exact NZ (RJ (by omega)) n1 m4 (Agh n7)
  ·cases hc
 split at hc
 ·split at hc
  ·simp only[List.mem_cons,List.not_mem_nil,or_false]at hc
   subst hc
   exact NZ (RJ (by omega)) n1 m3 NY
  ·cases hc
 split at hc
 ·split at hc
  ·cases hc
  ·simp only[List.mem_cons,List.not_mem_nil,or_false]at hc
   subst hc
   exact NZ (RJ (by omega)) n1 m4 m5
 ·cases hc
theorem Ac4 {e:GE} {m:GM} (he:e.ok) (hm:m.ok):∀c∈Fv e m,c.ok:=by
 obtain⟨n1,n2,n3,n4,n5,n6,n7⟩:=he
 obtain⟨m1,m2,m3,m4,m5,m6⟩:=hm
 unfold Fv
 intro c hc
 split at hc
 ·simp only[List.mem_cons,List.mem_map]at hc
  rcases hc with rfl|rfl|⟨p,hp,rfl⟩
  ·exact⟨RJ (n:=7) (by omega),n1,RJ (n:=0) (by omega),RJ (n:=0) (by omega),by simp[Ln],NY⟩
  ·exact⟨RJ (n:=6) (by omega),n1,n2,n3,m4,NY⟩
  ·exact NZ (RJ (by omega)) n1 (n7 p hp).1 (n7 p hp).2
 ·cases hc
theorem Ri {g:GG} {m:GM} (hg:g.ok) (hm:m.ok):∀c∈(Gs g m).1,c.ok:=by
 have h0:∀c∈([]:List GC),c.ok:=fun c hc=>by cases hc
 unfold Gs
 split;· exact h0
 split;· exact h0
 split;· exact h0
 intro c hc
 unfold Ux at hc
 rcases List.mem_append.1 hc with hc|hc
 ·obtain⟨n,hn,hc⟩:=List.mem_flatMap.1 hc
  exact Ac3 (hg.2.2.1 n hn) hm c hc
 ·obtain⟨n,hn,hc⟩:=List.mem_flatMap.1 hc
  exact Ac4 (hg.2.2.2.2.2.1 n hn) hm c hc
theorem AbF {v:GV} (hv:v.ok) (h:Fq v):FP 12 v.av:=by
 refine⟨v,rfl,hv,?_,by have:=h.2.1;omega,fun x hx=>?_⟩
 ·by_cases hk:v.k=4
  ·have:=(Ajt h hk).2.1;omega
  ·rw[Aju h hk];simp
 ·rw[List.eq_nil_of_length_eq_zero h.2.1]at hx;cases hx
theorem OO {g:GG} (hg:g.ok) (h:Bj g=0):Fair g:=by
 have hc:=Ac5 h
 have ha:=hc.vg.ask
 have hp:∀{P:List GP},P.length≤16→(∀ p∈P,p.ok)→allPlain P→ND P:=fun h1 h2 h3=>⟨⟨by omega,fun p hp=>⟨h2 p hp,AbF (h2 p hp).2 (h3 p hp)⟩⟩,h3⟩
 refine⟨hg,ha.lN,ha.lE,fun n hn=>?_,fun e he=>?_⟩
 ·have v:=hc.vg.n n hn
  exact⟨by have:=v.a.lL;omega,hp v.a.lP (hg.2.2.1 n hn).2.2.2.2.2.2 v.pl⟩
 ·have v:=hc.vg.e e he
  exact hp v.a.lP (hg.2.2.2.2.2.1 e he).2.2.2.2.2.2 v.pl
theorem Ac6 {g:GG} (hg:g.ok) (h:Bj g=0):Look g:=by
 obtain⟨_,h1,h2,h3,h4⟩:=OO hg h
 refine⟨by omega,by omega,fun n hn=>?_,fun n hn=>?_,fun e he=>?_⟩
 ·have:=h3 n hn
  exact⟨by have:=this.1;omega,by have:=this.2.1.1;omega,(hg.2.2.1 n hn).2.2.2.2.2.2⟩
 ·have:=h3 n hn
  exact⟨this.1,(hg.2.2.1 n hn).2.2.1,(hg.2.2.1 n hn).2.2.2.2.2.1,this.2.1⟩
 ·have:=(h4 e he).1.1;omega
theorem Ac7 {L:List GC}:∀{g:GG} {i:Nat},Xn g→g.ok→(∀ c∈L,c.ok)→(RN g L i).1.ok∧((RN g L i).2.2=0→Xn (RN g L i).1):=by
 induction L with
 |nil=>intro g i h ho _;exact⟨ho,fun _=>h⟩
 |cons c L ih=>
  intro g i h ho hc
  rw[RN]
  split
  ·exact⟨OL,fun k=>absurd k (by assumption)⟩
  ·exact ih (Ac8 h) (Agi ho h.vg.ask (hc c (by simp))) fun x hx=>hc x (by simp[hx])
theorem JG {g:GG} {L:List GC} (ho:g.ok) (hc:∀c∈L,c.ok):(Bq g L).1.ok∧((Bq g L).2.2=0→Xn (Bq g L).1):=by
 unfold Bq
 split
 ·exact⟨OL,fun k=>absurd k (by assumption)⟩
 ·rename_i h
  exact Ac7 (Ac5 (Classical.not_not.1 h)) ho hc
structure StE where
 e:Int
 g:GG
 s:List GR
noncomputable def stepM (g:GG) (s:List GR) (m:GM):StE:=
 if(Gs g m).2≠0 then⟨(Gs g m).2,EJ,[]⟩
 else if(Bq g (Gs g m).1).2.2≠0 then⟨(Bq g (Gs g m).1).2.2,EJ,[]⟩
 else if JV s m≠0 then⟨JV s m,EJ,[]⟩
 else if Jd (Lp s m) (Bq g (Gs g m).1).1≠0 then⟨Jd (Lp s m) (Bq g (Gs g m).1).1,EJ,[]⟩
 else⟨0,(Bq g (Gs g m).1).1,Lp s m⟩
structure RE where
 g:GG
 s:List GR
 n:Nat
 e:Int
noncomputable def Dq:GG→List GR→List GM→Nat→RE
 |g,s,[],i=>⟨g,s,i,0⟩
 |g,s,m::l,i=>if(stepM g s m).e≠0 then⟨EJ,[],i,(stepM g s m).e⟩else Dq (stepM g s m).g (stepM g s m).s l (i+1)
structure OkE (g:GG) (s:List GR):Prop where
 gk:g.ok
 sk:∀r∈s,r.ok
 lk:s.length<2^61
theorem OkE.step {g:GG} {s:List GR} {m:GM} (h:OkE g s) (hm:m.ok):OkE (stepM g s m).g (stepM g s m).s:=by
 have hz:OkE EJ []:=⟨OL,fun r hr=>(by cases hr),by simp⟩
 unfold stepM
 split;· exact hz
 split;· exact hz
 split;· exact hz
 split;· exact hz
 exact⟨(JG h.gk (Ri h.gk hm)).1,Aam h.sk hm,Xm⟩
theorem AbG {g:GG} {s:List GR} {m:GM} (h:OkE g s) (hm:m.ok) (h0:(stepM g s m).e=0):Xn (stepM g s m).g:=by
 unfold stepM at h0 ⊢
 split at h0;· contradiction
 split at h0;· contradiction
 split at h0;· contradiction
 split at h0;· contradiction
 rename_i h1 h2 h3 h4
 rw[if_neg h1,if_neg h2,if_neg h3,if_neg h4]
 exact(JG h.gk (Ri h.gk hm)).2 (Classical.not_not.1 h2)
theorem Aan:∀{l:List GM} {g:GG} {s:List GR} {i:Nat},OkE g s→(∀ m∈l,m.ok)→OkE (Dq g s l i).g (Dq g s l i).s:=by
 intro l
 induction l with
 |nil=>intro g s i h _;exact h
 |cons m l ih=>
  intro g s i h hm
  rw[Dq]
  split
  ·exact⟨OL,fun r hr=>(by cases hr),by simp⟩
  ·exact ih (h.step (hm m (by simp))) fun x hx=>hm x (by simp[hx])
theorem YT:∀{l:List GM} {g:GG} {s:List GR} {i:Nat},i≤(Dq g s l i).n∧(Dq g s l i).n≤i+l.length∧((Dq g s l i).e=0→(Dq g s l i).n=i+l.length)∧((Dq g s l i).e≠0→(Dq g s l i).n<i+l.length):=by
 intro l
 induction l with
 |nil=>intro g s i;exact⟨Nat.le_refl _,Nat.le_refl _,fun _=>rfl,fun h=>absurd rfl h⟩
 |cons m l ih=>
  intro g s i
  rw[Dq]
  split
  ·exact⟨Nat.le_refl _,Nat.le_add_right _ _,fun h=>absurd h (by assumption),fun _=>by simp⟩
  ·obtain⟨a,b,c,d⟩:=ih (g:=(stepM g s m).g) (s:=(stepM g s m).s) (i:=i+1)
   simp only[List.length_cons]
   exact⟨by omega,by omega,fun h=>by rw[c h];omega,fun h=>by have:=d h;omega⟩
theorem YU:∀{l:List GM} {g:GG} {s:List GR} {i j:Nat},(Dq g s l i).g=(Dq g s l j).g∧(Dq g s l i).s=(Dq g s l j).s∧(Dq g s l i).e=(Dq g s l j).e∧(Dq g s l i).n+j=(Dq g s l j).n+i:=by
 intro l
 induction l with
 |nil=>intro g s i j;exact⟨rfl,rfl,rfl,Nat.add_comm _ _⟩
 |cons m l ih=>
  intro g s i j
  rw[Dq,Dq]
  split
  ·exact⟨rfl,rfl,rfl,Nat.add_comm _ _⟩
  ·obtain⟨a,b,c,d⟩:=ih (g:=(stepM g s m).g) (s:=(stepM g s m).s) (i:=i+1) (j:=j+1)
   exact⟨a,b,c,by omega⟩
theorem Ada:∀{a b:List GM} {g:GG} {s:List GR} {i:Nat},Dq g s (a++b) i=if(Dq g s a i).e≠0 then Dq g s a i else Dq (Dq g s a i).g (Dq g s a i).s b (i+a.length):=by
 intro a
 induction a with
 |nil=>intro b g s i;rw[List.nil_append,Dq];rfl
 |cons m a ih=>
  intro b g s i
  rw[List.cons_append,Dq,Dq]
  by_cases h:(stepM g s m).e≠0
  ·rw[if_pos h,if_pos h,if_pos h]
  ·rw[if_neg h,if_neg h,ih,List.length_cons,show i+1+a.length=i+(a.length+1) by omega]
theorem Xo:∀{l:List GM} {g:GG} {s:List GR} {i:Nat},OkE g s→(∀ m∈l,m.ok)→(Dq g s l i).e=0→l≠[]→Xn (Dq g s l i).g:=by
 intro l
 induction l with
 |nil=>intro g s i _ _ _ h;exact absurd rfl h
 |cons m l ih=>
  intro g s i ho hm h _
  rw[Dq]at h ⊢
  by_cases h1:(stepM g s m).e≠0
  ·rw[if_pos h1]at h;exact absurd h h1
  ·rw[if_neg h1]at h ⊢
   cases l with
   |nil=>exact AbG ho (hm m (by simp)) (Classical.not_not.1 h1)
   |cons x l=>exact ih (ho.step (hm m (by simp))) (fun y hy=>hm y (by simp[hy])) h (by simp)
theorem Gp {g es:Nat} {ys:List AV} {bytes:Nat} {K:Nat→Bool→Bool→List AV→Prop} (hs:Ba es ys) (hr:ys.length*bytes≤2 ^ 47) (h:K ys.length true true ys):
 IQ g g es es 0 true true true [] ys bytes K:=by
 refine⟨⟨rfl,rfl,by simp,hs,?_⟩,?_⟩
 ·rw[Nat.zero_add];exact hr
 ·rw[Nat.zero_add];exact h
theorem Afk:Aq (Ad tab) 240 [.sl false []] ⟨[],0⟩ fun out _=>out=.ok (.sl false []):=by
 refine Ai rfl rfl ?_
 (conv=>whnf);repeat' (first  |(refine kA ?_;conv=>whnf)|(refine Br.mk (fun hc=>?_) fun hc=>?_<;>first|exact hc.elim|conv=>whnf)|(refine kB ?_))
 rfl
theorem AhI {l:List AV} (hs:Ba 5 l) (hl:l.length*64≤2 ^ 47):Aq (Ad tab) 240 [.sl true l] ⟨[],0⟩ fun out s'=>∃o g,out=.ok (.own o g 0 l.length)∧nth s'.σ o=some (.arr g 5 true true l):=by
 refine Ai rfl rfl ?_
 (conv=>whnf);repeat' (first  |(refine kA ?_;conv=>whnf)|(refine Br.mk (fun hc=>?_) fun hc=>?_<;>first|exact hc.elim|conv=>whnf)|(refine kB ?_))
 refine Gp hs hl ?_
 (conv=>whnf);repeat' (first  |(refine kA ?_;conv=>whnf)|(refine Br.mk (fun hc=>?_) fun hc=>?_<;>first|exact hc.elim|conv=>whnf)|(refine kB ?_))
 exact⟨_,_,rfl,rfl⟩
theorem Nk {l:List AV} {z:Nat} {x:AV} (h:nth l z=some x):l.set z x=l:=by
 rw[AU]at h
 obtain⟨hz,rfl⟩:=List.getElem?_eq_some_iff.1 h
 exact List.set_getElem_self hz
theorem PY (l:List AV):sub l 0 l.length=l:=by unfold sub;exact List.take_of_length_le (by simp)
theorem AhJ {l:List (List UInt8)} {nn:Bool} (hl:l.length*16≤2 ^ 47) (hn:nn=false→l=[]):Ae (Ad tab) 65 [.sl nn (vs .str l)] (· =.sl nn (vs .str l)):=by
 cases nn with
 |false=>
  obtain rfl:=hn rfl
  refine Ac rfl rfl ?_
  (conv=>whnf);repeat' (first  |(refine kA ?_;conv=>whnf)|(refine Br.mk (fun hc=>?_) fun hc=>?_<;>first|exact hc.elim|conv=>whnf)|(refine kB ?_))
  rfl
 |true=>
  refine Ac rfl rfl ?_
  (conv=>whnf);repeat' (first  |(refine kA ?_;conv=>whnf)|(refine Br.mk (fun hc=>?_) fun hc=>?_<;>first|exact hc.elim|conv=>whnf)|(refine kB ?_))
  refine Gp (BJ (f:=.str) (fun _=>rfl) l) (by rw[lV];omega) ?_
  (conv=>whnf);repeat' (first  |(refine kA ?_;conv=>whnf)|(refine Br.mk (fun hc=>?_) fun hc=>?_<;>first|exact hc.elim|conv=>whnf)|(refine kB ?_))
  rw[lV,uV]
theorem Afl:Aq (Ad tab) 124 [.sl false []] ⟨[],0⟩ fun out _=>out=.ok (.sl false []):=by
 refine Ai rfl rfl ?_
 (conv=>whnf);repeat' (first  |(refine kA ?_;conv=>whnf)|(refine Br.mk (fun hc=>?_) fun hc=>?_<;>first|exact hc.elim|conv=>whnf)|(refine kB ?_))
 rfl
theorem AhK {l:List GP} (hl:l.length*80≤2 ^ 47):Aq (Ad tab) 124 [.sl true (vs GP.av l)] ⟨[],0⟩ fun out s'=>∃o g,out=.ok (.own o g 0 (vs GP.av l).length)∧nth s'.σ o=some (.arr g 6 true true (vs GP.av l)):=by
 refine Ai rfl rfl ?_
 (conv=>whnf);repeat' (first  |(refine kA ?_;conv=>whnf)|(refine Br.mk (fun hc=>?_) fun hc=>?_<;>first|exact hc.elim|conv=>whnf)|(refine kB ?_))
 refine Gp (BJ (f:=GP.av) (fun _=>rfl) l) (by rw[lV];omega) ?_
 (conv=>whnf);repeat' (first  |(refine kA ?_;conv=>whnf)|(refine Br.mk (fun hc=>?_) fun hc=>?_<;>first|exact hc.elim|conv=>whnf)|(refine kB ?_))
 exact⟨_,_,rfl,rfl⟩
theorem AkX:Ae (Ad tab) 210 [.sl false []] (· =.sl false []):=by
 refine Ac rfl rfl ?_
 (conv=>whnf);repeat' (first  |(refine kA ?_;conv=>whnf)|(refine Br.mk (fun hc=>?_) fun hc=>?_<;>first|exact hc.elim|conv=>whnf)|(refine kB ?_))
 refine FQ rfl Afk ?_
 (conv=>whnf);repeat' (first  |(refine kA ?_;conv=>whnf)|(refine Br.mk (fun hc=>?_) fun hc=>?_<;>first|exact hc.elim|conv=>whnf)|(refine kB ?_))
 refine DN ?_ rfl
 (conv=>whnf);repeat' (first  |(refine kA ?_;conv=>whnf)|(refine Br.mk (fun hc=>?_) fun hc=>?_<;>first|exact hc.elim|conv=>whnf)|(refine kB ?_))
 rfl
theorem Aab {d:Nat} {l:List AV} (h:∀x∈l,FP d x):Ba 5 l:=by
 intro x hx
 obtain⟨g,rfl,_⟩:=Nh (h x hx)
 rfl
theorem AhR:∀(d:Nat) {l:List AV} {nn:Bool},(nn=false→l=[])→l.length≤2000→(∀ x∈l,FP d x)→Ae (Ad tab) 210 [.sl nn l] (· =.sl nn l):=by
 intro d
 induction d using Nat.strongRecOn with
 |ind d ih=>
  intro l nn hn hl h
  cases nn with
  |false=>obtain rfl:=hn rfl;exact AkX
  |true=>
   refine Ac rfl rfl ?_
   (conv=>whnf);repeat' (first  |(refine kA ?_;conv=>whnf)|(refine Br.mk (fun hc=>?_) fun hc=>?_<;>first|exact hc.elim|conv=>whnf)|(refine kB ?_))
   refine RP rfl (AhI (Aab h) (by omega)) ?_
   (conv=>whnf);repeat' (first  |(refine kA ?_;conv=>whnf)|(refine Br.mk (fun hc=>?_) fun hc=>?_<;>first|exact hc.elim|conv=>whnf)|(refine kB ?_))
   refine Ag (fun m env st=>∃(i c:Nat),m=l.length-i∧env=[(3,.own 0 0 0 l.length),(8,.int .i64 l.length),(9,.int .i64 i)]∧st=⟨[.arr 0 5 true true l],c⟩) ?_ _ _ _ ⟨0,_,rfl,rfl,rfl⟩
   rintro _ _ _ ⟨i,c,rfl,rfl,rfl⟩
   refine⟨rfl,?_⟩
   by_cases hlt:i<l.length
   ·obtain⟨u,e,hu,hu2,d',rfl,hu3⟩:=Nh (h _ (List.getElem_mem hlt))
    have p:=ih d' (by omega) (l:=u.l) (nn:=u.nn) hu.2.2.2.2.2.1 hu2 hu3
    have hnn:nth l (Int.toNat (Nat.cast i))=some (.agg [.int .i64 u.k,.int .i64 u.n,.int .i64 u.d,.str u.s,.sl u.nn u.l]):=by
        show _=some u.av
        rw[← e];exact nRN hlt
    (conv=>whnf);repeat' (first|(apply Aj;(· exact hnn);conv=>whnf)|(refine Aa p ?_;rintro _ rfl;conv=>whnf)|(apply Bo;(· exact Nk hnn);conv=>whnf)|(refine kA ?_;conv=>whnf)|(refine Br.mk (fun hc=>?_) fun hc=>?_<;>first|exact hc.elim|conv=>whnf)|(refine kB ?_))
    all_goals first
        |(exfalso;omega)
        |exact again.mk ⟨_,by omega,i+1,_,rfl,rfl,rfl⟩
   ·(conv=>whnf);repeat' (first  |(refine kA ?_;conv=>whnf)|(refine Br.mk (fun hc=>?_) fun hc=>?_<;>first|exact hc.elim|conv=>whnf)|(refine kB ?_))
    all_goals first
        |(exfalso;omega)
        |exact congrArg (AV.sl true) (PY _)
theorem AhS {l:List AV} {nn:Bool} (h:Ae (Ad tab) 210 [.sl nn l] (· =.sl nn l)):Ae (Ad tab) 130 [.sl nn l] (· =.agg [.int .i64 8,.int .i64 0,.int .i64 0,.str [],.sl nn l]):=by
 refine Ac rfl rfl ?_
 (conv=>whnf);repeat' (first|(refine Aa h ?_;rintro _ rfl;conv=>whnf)|(refine kA ?_;conv=>whnf)|(refine Br.mk (fun hc=>?_) fun hc=>?_<;>first|exact hc.elim|conv=>whnf)|(refine kB ?_))
 all_goals first|rfl
def Um (P:List GP):Prop:=P.length≤2000∧∀p∈P,p.ok∧FP 12 p.v.av
theorem AkY {v:GV} (hv:v.ok) (h:FP 12 v.av):Ae (Ad tab) 130 [.sl v.nn v.l] (· =.agg [.int .i64 8,.int .i64 0,.int .i64 0,.str [],.sl v.nn v.l]):=by
 obtain⟨g,e,h1,h2,d',e2,h3⟩:=Nh h
 have el:g.l=v.l:=by injection e with e;simp only[List.cons.injEq,AV.sl.injEq]at e;exact e.2.2.2.2.1.2.symm
 rw[el]at h2 h3
 exact AhS (AhR d' hv.2.2.2.2.2.1 h2 h3)
theorem AfD {P:List GP} {nn:Bool} (hn:nn=false→P=[]) (h:Um P):Ae (Ad tab) 66 [.sl nn (vs GP.av P)] (· =.sl nn (vs GP.av P)):=by
 cases nn with
 |false=>
  obtain rfl:=hn rfl
  refine Ac rfl rfl ?_
  (conv=>whnf);repeat' (first  |(refine kA ?_;conv=>whnf)|(refine Br.mk (fun hc=>?_) fun hc=>?_<;>first|exact hc.elim|conv=>whnf)|(refine kB ?_))
  refine FQ rfl Afl ?_
  (conv=>whnf);repeat' (first  |(refine kA ?_;conv=>whnf)|(refine Br.mk (fun hc=>?_) fun hc=>?_<;>first|exact hc.elim|conv=>whnf)|(refine kB ?_))
  refine DN ?_ rfl
  (conv=>whnf);repeat' (first  |(refine kA ?_;conv=>whnf)|(refine Br.mk (fun hc=>?_) fun hc=>?_<;>first|exact hc.elim|conv=>whnf)|(refine kB ?_))
  rfl
 |true=>
  have hl:=h.1
  refine Ac rfl rfl ?_
  (conv=>whnf);repeat' (first  |(refine kA ?_;conv=>whnf)|(refine Br.mk (fun hc=>?_) fun hc=>?_<;>first|exact hc.elim|conv=>whnf)|(refine kB ?_))
  refine RP rfl (AhK (l:=P) (by omega)) ?_
  (conv=>whnf);repeat' (first  |(refine kA ?_;conv=>whnf)|(refine Br.mk (fun hc=>?_) fun hc=>?_<;>first|exact hc.elim|conv=>whnf)|(refine kB ?_))
  refine Ag (fun m env st=>∃i c:Nat,m=P.length-i∧env=[(0,.own 0 0 0 (vs GP.av P).length),(7,.int .i64 (vs GP.av P).length),(8,.int .i64 i)]∧st=⟨[.arr 0 6 true true (vs GP.av P)],c⟩) ?_ _ _ _ ⟨0,_,rfl,rfl,rfl⟩
  rintro _ _ _ ⟨i,c,rfl,rfl,rfl⟩
  refine⟨rfl,?_⟩
  have hll:(vs GP.av P).length=P.length:=lV _
  by_cases hlt:i<P.length
  ·obtain⟨h1,h2⟩:=h.2 _ (List.getElem_mem hlt)
   have p:=AkY h1.2 h2
   (conv=>whnf);repeat' (first|(refine Aa p ?_;rintro _ rfl;conv=>whnf)|(apply Bo;(· exact Nk (x:=(P[i]).av) (nVN (by omega)));conv=>whnf)|(refine kA ?_;conv=>whnf)|(refine Br.mk (fun hc=>?_) fun hc=>?_<;>first|exact hc.elim|conv=>whnf)|(refine kB ?_))
   all_goals first
        |(exfalso;omega)
        |exact again.mk ⟨_,by omega,i+1,_,rfl,rfl,rfl⟩
  ·(conv=>whnf);repeat' (first  |(refine kA ?_;conv=>whnf)|(refine Br.mk (fun hc=>?_) fun hc=>?_<;>first|exact hc.elim|conv=>whnf)|(refine kB ?_))
   all_goals first
        |(exfalso;omega)
        |exact congrArg (AV.sl true) (PY _)
theorem Yz:Aq (Ad tab) 63 [.sl false []] ⟨[],0⟩ fun out _=>out=.ok (.sl false []):=by
 refine Ai rfl rfl ?_
 (conv=>whnf);repeat' (first  |(refine kA ?_;conv=>whnf)|(refine Br.mk (fun hc=>?_) fun hc=>?_<;>first|exact hc.elim|conv=>whnf)|(refine kB ?_))
 rfl
theorem Abu {l:List GN} (hl:l.length≤4000):Aq (Ad tab) 63 [.sl true (vs GN.av l)] ⟨[],0⟩ fun out s'=>∃o g,out=.ok (.own o g 0 (vs GN.av l).length)∧nth s'.σ o=some (.arr g 3 true true (vs GN.av l)):=by
 refine Ai rfl rfl ?_
 (conv=>whnf);repeat' (first  |(refine kA ?_;conv=>whnf)|(refine Br.mk (fun hc=>?_) fun hc=>?_<;>first|exact hc.elim|conv=>whnf)|(refine kB ?_))
 refine Gp (BJ (f:=GN.av) (fun _=>rfl) l) (by rw[lV];omega) ?_
 (conv=>whnf);repeat' (first  |(refine kA ?_;conv=>whnf)|(refine Br.mk (fun hc=>?_) fun hc=>?_<;>first|exact hc.elim|conv=>whnf)|(refine kB ?_))
 exact⟨_,_,rfl,rfl⟩
theorem YA:Aq (Ad tab) 64 [.sl false []] ⟨[],0⟩ fun out _=>out=.ok (.sl false []):=by
 refine Ai rfl rfl ?_
 (conv=>whnf);repeat' (first  |(refine kA ?_;conv=>whnf)|(refine Br.mk (fun hc=>?_) fun hc=>?_<;>first|exact hc.elim|conv=>whnf)|(refine kB ?_))
 rfl
theorem Abv {l:List GE} (hl:l.length≤4000):Aq (Ad tab) 64 [.sl true (vs GE.av l)] ⟨[],0⟩ fun out s'=>∃o g,out=.ok (.own o g 0 (vs GE.av l).length)∧nth s'.σ o=some (.arr g 5 true true (vs GE.av l)):=by
 refine Ai rfl rfl ?_
 (conv=>whnf);repeat' (first  |(refine kA ?_;conv=>whnf)|(refine Br.mk (fun hc=>?_) fun hc=>?_<;>first|exact hc.elim|conv=>whnf)|(refine kB ?_))
 refine Gp (BJ (f:=GE.av) (fun _=>rfl) l) (by rw[lV];omega) ?_
 (conv=>whnf);repeat' (first  |(refine kA ?_;conv=>whnf)|(refine Br.mk (fun hc=>?_) fun hc=>?_<;>first|exact hc.elim|conv=>whnf)|(refine kB ?_))
 exact⟨_,_,rfl,rfl⟩
structure Om (g:GG):Prop where
 nn:g.nodes.length≤4000
 en:g.edges.length≤4000
 nodes:∀n∈g.nodes,n.ok∧n.labels.length≤100000∧Um n.props
 edges:∀e∈g.edges,e.ok∧Um e.props
section
variable {N:List GN} {E:List GE} {x y:Int} {gN gE:Nat} {vN vE:AV}
theorem Anf (hl:N.length≤4000) (h:∀n∈N,n.ok∧n.labels.length≤100000∧Um n.props) {bE:AV} {YN:Obj} {c0:Nat} {Q:AQ→Env→Am→Prop}
 (hQ:∀c tl,Q (.exit 0) ([(1,.ref 0 0 0 0),(2,.ref 1 1 0 0),(15,.int .i64 (vs GN.av N).length),(16,.int .i64 N.length)]++tl) ⟨[.arr 0 4 true false [.agg [.own 2 2 0 (vs GN.av N).length,bE,.int .i64 x,.int .i64 y]],.arr 1 4 true true [.agg [.sl false [],.sl false [],.int .i64 0,.int .i64 0]],.arr 2 3 true true (vs GN.av N),YN],c⟩):
 Run (Ad tab) (.loop l29_0_h l29_0_b) [(1,.ref 0 0 0 0),(2,.ref 1 1 0 0),(15,.int .i64 (vs GN.av N).length),(16,.int .i64 0)] ⟨[.arr 0 4 true false [.agg [.own 2 2 0 (vs GN.av N).length,bE,.int .i64 x,.int .i64 y]],.arr 1 4 true true [.agg [.sl false [],.sl false [],.int .i64 0,.int .i64 0]],.arr 2 3 true true (vs GN.av N),YN],c0⟩ Q:=by
 have hlN:(vs GN.av N).length=N.length:=lV _
 refine Ag (fun m env st=>∃i c:Nat,m=N.length-i∧i≤N.length∧env=[(1,.ref 0 0 0 0),(2,.ref 1 1 0 0),(15,.int .i64 (vs GN.av N).length),(16,.int .i64 i)]∧st=⟨[.arr 0 4 true false [.agg [.own 2 2 0 (vs GN.av N).length,bE,.int .i64 x,.int .i64 y]],.arr 1 4 true true [.agg [.sl false [],.sl false [],.int .i64 0,.int .i64 0]],.arr 2 3 true true (vs GN.av N),YN],c⟩) ?_ _ _ _ ⟨0,_,rfl,by omega,rfl,rfl⟩
 rintro _ _ _ ⟨i,c,rfl,hi,rfl,rfl⟩
 refine⟨rfl,?_⟩
 by_cases hlt:i<N.length
 ·obtain⟨h1,h2,h3⟩:=h _ (List.getElem_mem hlt)
  have p1:=AhJ (l:=(N[i]).labels) (nn:=(N[i]).ln) (by omega) h1.2.2.1
  have p2:=AfD (P:=(N[i]).props) (nn:=(N[i]).pn) h1.2.2.2.2.2.1 h3
  (conv=>whnf);repeat' (first|((first|refine Aa p1 ?_|refine Aa p2 ?_);rintro _ rfl;conv=>whnf)|(apply Bo;(· exact Nk (x:=(N[i]).av) (nVN (by omega)));conv=>whnf)|(refine kA ?_;conv=>whnf)|(refine Br.mk (fun hc=>?_) fun hc=>?_<;>first|exact hc.elim|conv=>whnf)|(refine kB ?_))
  all_goals first
   |(exfalso;omega)
   |exact again.mk ⟨_,by omega,i+1,_,rfl,by omega,rfl,rfl⟩
 ·obtain rfl:i=N.length:=by omega
  (conv=>whnf);repeat' (first  |(refine kA ?_;conv=>whnf)|(refine Br.mk (fun hc=>?_) fun hc=>?_<;>first|exact hc.elim|conv=>whnf)|(refine kB ?_))
  all_goals first
   |(exfalso;omega)
   |exact hQ _ _
theorem Ang (hl:E.length≤4000) (h:∀e∈E,e.ok∧Um e.props) {bN:AV} {NR:Obj} {c0:Nat} {Q:AQ→Env→Am→Prop}
 (hQ:∀c tl,Q (.exit 2) ([(1,.ref 0 0 0 0),(2,.ref 1 1 0 0),(46,.int .i64 (vs GE.av E).length),(47,.int .i64 E.length)]++tl) ⟨[.arr 0 4 true false [.agg [bN,.own 3 3 0 (vs GE.av E).length,.int .i64 x,.int .i64 y]],.arr 1 4 true true [.agg [.sl false [],.sl false [],.int .i64 0,.int .i64 0]],NR,.arr 3 5 true true (vs GE.av E)],c⟩):
 Run (Ad tab) (.loop l29_1_h l29_1_b) [(1,.ref 0 0 0 0),(2,.ref 1 1 0 0),(46,.int .i64 (vs GE.av E).length),(47,.int .i64 0)] ⟨[.arr 0 4 true false [.agg [bN,.own 3 3 0 (vs GE.av E).length,.int .i64 x,.int .i64 y]],.arr 1 4 true true [.agg [.sl false [],.sl false [],.int .i64 0,.int .i64 0]],NR,.arr 3 5 true true (vs GE.av E)],c0⟩ Q:=by
 have hlE:(vs GE.av E).length=E.length:=lV _
 refine Ag (fun m env st=>∃i c:Nat,m=E.length-i∧i≤E.length∧env=[(1,.ref 0 0 0 0),(2,.ref 1 1 0 0),(46,.int .i64 (vs GE.av E).length),(47,.int .i64 i)]∧st=⟨[.arr 0 4 true false [.agg [bN,.own 3 3 0 (vs GE.av E).length,.int .i64 x,.int .i64 y]],.arr 1 4 true true [.agg [.sl false [],.sl false [],.int .i64 0,.int .i64 0]],NR,.arr 3 5 true true (vs GE.av E)],c⟩) ?_ _ _ _ ⟨0,_,rfl,by omega,rfl,rfl⟩
 rintro _ _ _ ⟨i,c,rfl,hi,rfl,rfl⟩
 refine⟨rfl,?_⟩
 by_cases hlt:i<E.length
 ·obtain⟨h1,h3⟩:=h _ (List.getElem_mem hlt)
  have p2:=AfD (P:=(E[i]).props) (nn:=(E[i]).pn) h1.2.2.2.2.2.1 h3
  (conv=>whnf);repeat' (first|(refine Aa p2 ?_;rintro _ rfl;conv=>whnf)|(apply Bo;(· exact Nk (x:=(E[i]).av) (nVN (by omega)));conv=>whnf)|(refine kA ?_;conv=>whnf)|(refine Br.mk (fun hc=>?_) fun hc=>?_<;>first|exact hc.elim|conv=>whnf)|(refine kB ?_))
  all_goals first
   |(exfalso;omega)
   |exact again.mk ⟨_,by omega,i+1,_,rfl,by omega,rfl,rfl⟩
 ·obtain rfl:i=E.length:=by omega
  (conv=>whnf);repeat' (first  |(refine kA ?_;conv=>whnf)|(refine Br.mk (fun hc=>?_) fun hc=>?_<;>first|exact hc.elim|conv=>whnf)|(refine kB ?_))
  all_goals first
   |(exfalso;omega)
   |exact hQ _ _
end
set_option maxHeartbeats 4000000 in
theorem AhT {g:GG} (hg:g.ok) (h:Om g):Ae (Ad tab) 29 [g.av] (· =g.av):=by
 obtain⟨nn,N,en,E,x,y⟩:=g
 have hN:=h.nn
 have hE:=h.en
 have hnn:=hg.2.1
 have hen:=hg.2.2.2.2.1
 dsimp only at hN hE hnn hen
 have hlN:(vs GN.av N).length=N.length:=lV _
 have hlE:(vs GE.av E).length=E.length:=lV _
 cases nn with
 |false=>
  obtain rfl:=hnn rfl
  cases en with
  |false=>
   obtain rfl:=hen rfl
   refine Ac rfl rfl ?_
   (conv=>whnf);repeat' (first  |(refine kA ?_;conv=>whnf)|(refine Br.mk (fun hc=>?_) fun hc=>?_<;>first|exact hc.elim|conv=>whnf)|(refine kB ?_))
   refine FQ rfl Yz ?_
   (conv=>whnf);repeat' (first  |(refine kA ?_;conv=>whnf)|(refine Br.mk (fun hc=>?_) fun hc=>?_<;>first|exact hc.elim|conv=>whnf)|(refine kB ?_))
   refine FQ rfl YA ?_
   (conv=>whnf);repeat' (first  |(refine kA ?_;conv=>whnf)|(refine Br.mk (fun hc=>?_) fun hc=>?_<;>first|exact hc.elim|conv=>whnf)|(refine kB ?_))
   refine DN ?_ rfl
   (conv=>whnf);repeat' (first  |(refine kA ?_;conv=>whnf)|(refine Br.mk (fun hc=>?_) fun hc=>?_<;>first|exact hc.elim|conv=>whnf)|(refine kB ?_))
   refine DN ?_ rfl
   (conv=>whnf);repeat' (first  |(refine kA ?_;conv=>whnf)|(refine Br.mk (fun hc=>?_) fun hc=>?_<;>first|exact hc.elim|conv=>whnf)|(refine kB ?_))
   all_goals first|rfl
  |true=>
   refine Ac rfl rfl ?_
   (conv=>whnf);repeat' (first  |(refine kA ?_;conv=>whnf)|(refine Br.mk (fun hc=>?_) fun hc=>?_<;>first|exact hc.elim|conv=>whnf)|(refine kB ?_))
   refine FQ rfl Yz ?_
   (conv=>whnf);repeat' (first  |(refine kA ?_;conv=>whnf)|(refine Br.mk (fun hc=>?_) fun hc=>?_<;>first|exact hc.elim|conv=>whnf)|(refine kB ?_))
   refine RP rfl (Abv (l:=E) (by omega)) ?_
   (conv=>whnf);repeat' (first  |(refine kA ?_;conv=>whnf)|(refine Br.mk (fun hc=>?_) fun hc=>?_<;>first|exact hc.elim|conv=>whnf)|(refine kB ?_))
   refine DN ?_ rfl
   (conv=>whnf);repeat' (first  |(refine kA ?_;conv=>whnf)|(refine Br.mk (fun hc=>?_) fun hc=>?_<;>first|exact hc.elim|conv=>whnf)|(refine kB ?_))
   refine Ang (by omega) h.edges fun c tl=>?_
   (conv=>whnf);repeat' (first  |(refine kA ?_;conv=>whnf)|(refine Br.mk (fun hc=>?_) fun hc=>?_<;>first|exact hc.elim|conv=>whnf)|(refine kB ?_))
   all_goals first|(simp only[PY];rfl)
 |true=>
  cases en with
  |false=>
   obtain rfl:=hen rfl
   refine Ac rfl rfl ?_
   (conv=>whnf);repeat' (first  |(refine kA ?_;conv=>whnf)|(refine Br.mk (fun hc=>?_) fun hc=>?_<;>first|exact hc.elim|conv=>whnf)|(refine kB ?_))
   refine RP rfl (Abu (l:=N) (by omega)) ?_
   (conv=>whnf);repeat' (first  |(refine kA ?_;conv=>whnf)|(refine Br.mk (fun hc=>?_) fun hc=>?_<;>first|exact hc.elim|conv=>whnf)|(refine kB ?_))
   refine FQ rfl YA ?_
   (conv=>whnf);repeat' (first  |(refine kA ?_;conv=>whnf)|(refine Br.mk (fun hc=>?_) fun hc=>?_<;>first|exact hc.elim|conv=>whnf)|(refine kB ?_))
   refine Anf (by omega) h.nodes fun c tl=>?_
   (conv=>whnf);repeat' (first  |(refine kA ?_;conv=>whnf)|(refine Br.mk (fun hc=>?_) fun hc=>?_<;>first|exact hc.elim|conv=>whnf)|(refine kB ?_))
   refine DN ?_ rfl
   (conv=>whnf);repeat' (first  |(refine kA ?_;conv=>whnf)|(refine Br.mk (fun hc=>?_) fun hc=>?_<;>first|exact hc.elim|conv=>whnf)|(refine kB ?_))
   all_goals first|(simp only[PY];rfl)
  |true=>
   refine Ac rfl rfl ?_
   (conv=>whnf);repeat' (first  |(refine kA ?_;conv=>whnf)|(refine Br.mk (fun hc=>?_) fun hc=>?_<;>first|exact hc.elim|conv=>whnf)|(refine kB ?_))
   refine RP rfl (Abu (l:=N) (by omega)) ?_
   (conv=>whnf);repeat' (first  |(refine kA ?_;conv=>whnf)|(refine Br.mk (fun hc=>?_) fun hc=>?_<;>first|exact hc.elim|conv=>whnf)|(refine kB ?_))
   refine RP rfl (Abv (l:=E) (by omega)) ?_
   (conv=>whnf);repeat' (first  |(refine kA ?_;conv=>whnf)|(refine Br.mk (fun hc=>?_) fun hc=>?_<;>first|exact hc.elim|conv=>whnf)|(refine kB ?_))
   refine Anf (by omega) h.nodes fun c tl=>?_
   (conv=>whnf);repeat' (first  |(refine kA ?_;conv=>whnf)|(refine Br.mk (fun hc=>?_) fun hc=>?_<;>first|exact hc.elim|conv=>whnf)|(refine kB ?_))
   refine Ang (by omega) h.edges fun c tl=>?_
   (conv=>whnf);repeat' (first  |(refine kA ?_;conv=>whnf)|(refine Br.mk (fun hc=>?_) fun hc=>?_<;>first|exact hc.elim|conv=>whnf)|(refine kB ?_))
   all_goals first|(simp only[PY];rfl)
theorem Ail {l:List GR} {nn:Bool} (hl:l.length≤2000) (hn:nn=false→l=[]):Ae (Ad tab) 26 [.sl nn (vs GR.av l)] (· =.sl nn (vs GR.av l)):=by
 cases nn with
 |false=>
  obtain rfl:=hn rfl
  refine Ac rfl rfl ?_
  (conv=>whnf);repeat' (first  |(refine kA ?_;conv=>whnf)|(refine Br.mk (fun hc=>?_) fun hc=>?_<;>first|exact hc.elim|conv=>whnf)|(refine kB ?_))
  rfl
 |true=>
  refine Ac rfl rfl ?_
  (conv=>whnf);repeat' (first  |(refine kA ?_;conv=>whnf)|(refine Br.mk (fun hc=>?_) fun hc=>?_<;>first|exact hc.elim|conv=>whnf)|(refine kB ?_))
  refine Gp (BJ (f:=GR.av) (fun _=>rfl) l) (by rw[lV];omega) ?_
  (conv=>whnf);repeat' (first  |(refine kA ?_;conv=>whnf)|(refine Br.mk (fun hc=>?_) fun hc=>?_<;>first|exact hc.elim|conv=>whnf)|(refine kB ?_))
  rw[lV,uV]
def Apy (r:RE) (v:AV):Prop:=∃b,v=.BF [r.g.av,.sl b (vs GR.av r.s),.int .i64 r.n,.int .i64 r.e]∧(b=false→r.s=[])
set_option maxHeartbeats 4000000 in
theorem ZK {g:GG} {s:List GR} {sn ln:Bool} {l:List GM} (ho:OkE g s) (hsn:sn=false→s=[]) (hs:s.length≤2000) (hl:l.length<2^62) (hm:∀m∈l,m.ok) (hS:Om g):
 Ae (Ad tab) 10 [g.av,.sl sn (vs GR.av s),.sl ln (vs GM.av l)] (Apy (Dq g s l 0)):=by
 obtain⟨R,hR⟩:∃R,R=Dq g s l 0:=⟨_,rfl⟩
 rw[← hR]
 have pC:=Ail (l:=s) (nn:=sn) hs hsn
 refine Ac rfl rfl ?_
 (conv=>whnf);repeat' (first|(refine Aa pC ?_;rintro _ rfl;conv=>whnf)|(refine kA ?_;conv=>whnf)|(refine Br.mk (fun hc=>?_) fun hc=>?_<;>first|exact hc.elim|conv=>whnf)|(refine kB ?_))
 refine Ag (fun m env st=>∃(i c:Nat) (h:GG) (t:List GR) (b:Bool),m=l.length-i∧i≤l.length∧OkE h t∧(b=false→t=[])∧R=Dq h t (l.drop i) i∧(i=0→h=g)∧env=[(2,.sl ln (vs GM.av l)),(3,.ref 0 0 0 0),(6,.ref 1 1 0 0),(10,.sl b (vs GR.av t)),(21,.sl ln (vs GM.av l)),(22,.int .i64 l.length),(23,.int .i64 i)]∧st=⟨[.arr 0 4 true true [h.av],.arr 1 4 true true [EJ.av]],c⟩) ?_ _ _ _ ⟨0,_,g,s,sn,rfl,by omega,ho,hsn,by rw[List.drop_zero];exact hR,fun _=>rfl,rfl,rfl⟩
 rintro _ _ _ ⟨i,c,h,t,b,rfl,hi,hot,hb,hall,h0,rfl,rfl⟩
 refine⟨rfl,?_⟩
 by_cases hlt:i<l.length
 ·have VP:=hm _ (List.getElem_mem hlt)
  obtain⟨m,hme⟩:∃m,m=l[i]:=⟨_,rfl⟩
  have Rh:nth (vs GM.av l) i=some m.av:=by rw[hme];exact nVN hlt
  rw[List.drop_eq_getElem_cons hlt,Dq,←hme]at hall
  rw[← hme]at VP
  obtain⟨_,⟨b1,rfl⟩,p1⟩:=(AfZ hot.gk VP (OO hot.gk)).LG
  by_cases h1:(Gs h m).2=0
  case neg=>
   have e:stepM h t m=⟨(Gs h m).2,EJ,[]⟩:=by unfold stepM;rw[if_pos h1]
   rw[e,if_pos h1]at hall
   subst hall
   (conv=>whnf);repeat' (first|(apply Aj;(· exact Rh);conv=>whnf)|(refine Aa p1 ?_;rintro _ rfl;conv=>whnf)|(refine kA ?_;conv=>whnf)|(refine Br.mk (fun hc=>?_) fun hc=>?_<;>first|exact hc.elim|conv=>whnf)|(refine kB ?_))
   all_goals first
        |exact⟨false,rfl,fun _=>rfl⟩
        |(exfalso;omega)
        |exact absurd (by assumption) h1
  have p2:=Acn (g:=h) (L:=(Gs h m).1) (nn:=b1) hot.gk (AfU (OO hot.gk)) (Ri hot.gk VP)
  rw[h1]at p1
  by_cases h2:(Bq h (Gs h m).1).2.2=0
  case neg=>
   have e:stepM h t m=⟨(Bq h (Gs h m).1).2.2,EJ,[]⟩:=by unfold stepM;rw[if_neg (not_not_intro h1),if_pos h2]
   rw[e,if_pos h2]at hall
   subst hall
   (conv=>whnf);repeat' (first|(apply Aj;(· exact Rh);conv=>whnf)|((first|refine Aa p1 ?_|refine Aa p2 ?_);rintro _ rfl;conv=>whnf)|(refine kA ?_;conv=>whnf)|(refine Br.mk (fun hc=>?_) fun hc=>?_<;>first|exact hc.elim|conv=>whnf)|(refine kB ?_))
   all_goals first
        |exact⟨false,rfl,fun _=>rfl⟩
        |(exfalso;omega)
        |exact absurd rfl (by assumption)
        |exact absurd (by assumption) h2
  rw[h2]at p2
  obtain⟨_,⟨b3,rfl,hb3⟩,p3⟩:=(Ajr (nn:=b) hb hot.lk hot.sk VP).LG
  by_cases h3:JV t m=0
  case neg=>
   have e:stepM h t m=⟨JV t m,EJ,[]⟩:=by unfold stepM;rw[if_neg (not_not_intro h1),if_neg (not_not_intro h2),if_pos h3]
   rw[e,if_pos h3]at hall
   subst hall
   (conv=>whnf);repeat' (first|(apply Aj;(· exact Rh);conv=>whnf)|((first|refine Aa p1 ?_|refine Aa p2 ?_|refine Aa p3 ?_);rintro _ rfl;conv=>whnf)|(refine kA ?_;conv=>whnf)|(refine Br.mk (fun hc=>?_) fun hc=>?_<;>first|exact hc.elim|conv=>whnf)|(refine kB ?_))
   all_goals first
        |exact⟨false,rfl,fun _=>rfl⟩
        |(exfalso;omega)
        |exact absurd rfl (by assumption)
        |exact absurd (by assumption) h3
  rw[if_pos h3]at p3 hb3
  rw[h3]at p3
  obtain⟨hk,hkc⟩:=JG (L:=(Gs h m).1) hot.gk (Ri hot.gk VP)
  have p4:=AjD (s:=Lp t m) (sn:=b3) (g:=(Bq h (Gs h m).1).1) (by have:=Xm (s:=t) (m:=m);omega) (Aam hot.sk VP) hk (Ac6 hk)
  by_cases h4:Jd (Lp t m) (Bq h (Gs h m).1).1=0
  case neg=>
   have e:stepM h t m=⟨Jd (Lp t m) (Bq h (Gs h m).1).1,EJ,[]⟩:=by unfold stepM;rw[if_neg (not_not_intro h1),if_neg (not_not_intro h2),if_neg (not_not_intro h3),if_pos h4]
   rw[e,if_pos h4]at hall
   subst hall
   (conv=>whnf);repeat' (first|(apply Aj;(· exact Rh);conv=>whnf)|((first|refine Aa p1 ?_|refine Aa p2 ?_|refine Aa p3 ?_|refine Aa p4 ?_);rintro _ rfl;conv=>whnf)|(refine kA ?_;conv=>whnf)|(refine Br.mk (fun hc=>?_) fun hc=>?_<;>first|exact hc.elim|conv=>whnf)|(refine kB ?_))
   all_goals first
        |exact⟨false,rfl,fun _=>rfl⟩
        |(exfalso;omega)
        |exact absurd rfl (by assumption)
        |exact absurd (by assumption) h4
  rw[h4]at p4
  have e:stepM h t m=⟨0,(Bq h (Gs h m).1).1,Lp t m⟩:=by unfold stepM;rw[if_neg (not_not_intro h1),if_neg (not_not_intro h2),if_neg (not_not_intro h3),if_neg (not_not_intro h4)]
  have ho2:=hot.step VP
  rw[e]at ho2 hall
  rw[if_neg (not_not_intro rfl)]at hall
  dsimp only at ho2 hall
  (conv=>whnf);repeat' (first|(apply Aj;(· exact Rh);conv=>whnf)|((first|refine Aa p1 ?_|refine Aa p2 ?_|refine Aa p3 ?_|refine Aa p4 ?_);rintro _ rfl;conv=>whnf)|(refine kA ?_;conv=>whnf)|(refine Br.mk (fun hc=>?_) fun hc=>?_<;>first|exact hc.elim|conv=>whnf)|(refine kB ?_))
  all_goals first
   |(exfalso;omega)
   |exact absurd rfl (by assumption)
   |exact again.mk ⟨_,by omega,i+1,_,_,_,b3,rfl,by omega,ho2,hb3,hall,fun k=>(by omega),rfl,rfl⟩
 ·obtain rfl:i=l.length:=by omega
  rw[List.drop_length,Dq]at hall
  subst hall
  by_cases hz:l.length=0
  ·obtain rfl:=h0 hz
   have p5:=AhT hot.gk hS
   (conv=>whnf);repeat' (first|(refine Aa p5 ?_;rintro _ rfl;conv=>whnf)|(refine kA ?_;conv=>whnf)|(refine Br.mk (fun hc=>?_) fun hc=>?_<;>first|exact hc.elim|conv=>whnf)|(refine kB ?_))
   all_goals first
        |(exfalso;omega)
        |exact⟨b,rfl,hb⟩
  ·(conv=>whnf);repeat' (first  |(refine kA ?_;conv=>whnf)|(refine Br.mk (fun hc=>?_) fun hc=>?_<;>first|exact hc.elim|conv=>whnf)|(refine kB ?_))
   all_goals first
        |(exfalso;omega)
        |exact⟨b,rfl,hb⟩
set_option maxRecDepth 100000 in
theorem Zl:Ez (run (Ad tab) 80) 9 []=some (.bool true):=by kernel_rfl
section
open Go.Sort
end
section
open Go.Sort
end
theorem Acm {L:List GR} {n1 n2:Bool} (hl:L.length<2^61):Ae (Ad tab) 13 [.sl n1 (vs GR.av L),.sl n2 (vs GR.av L)] (· =.bool (decide True)):=by
 refine Ac rfl rfl ?_
 (conv=>whnf);repeat' (first  |(refine kA ?_;conv=>whnf)|(refine Br.mk (fun hc=>?_) fun hc=>?_<;>first|exact hc.elim|conv=>whnf)|(refine kB ?_))
 all_goals first|(exfalso;omega)|skip
 refine Ag (fun m env s=>∃i:Nat,m=L.length-i∧env=[(0,.sl n1 (vs GR.av L)),(1,.sl n2 (vs GR.av L)),(5,.int .i64 i)]∧s=⟨[],0⟩) ?_ _ _ _ ⟨0,rfl,rfl,rfl⟩
 rintro _ _ _ ⟨i,rfl,rfl,rfl⟩
 refine⟨rfl,?_⟩
 by_cases hlt:i<L.length
 ·(conv=>whnf);repeat' (first|(refine Ah (neR _ _) ?_;conv=>whnf)|(refine ZM (fun hc=>?_) (fun hc=>?_)<;>conv=>whnf)|(refine kA ?_;conv=>whnf)|(refine Br.mk (fun hc=>?_) fun hc=>?_<;>first|exact hc.elim|conv=>whnf)|(refine kB ?_))
  all_goals first
   |exact again.mk ⟨_,by omega,i+1,rfl,rfl,rfl⟩
   |(exfalso;simp_all;done)
 ·(conv=>whnf);repeat' (first  |(refine kA ?_;conv=>whnf)|(refine Br.mk (fun hc=>?_) fun hc=>?_<;>first|exact hc.elim|conv=>whnf)|(refine kB ?_))
  all_goals first|rfl
end AI
end Go.Proofs.YtjijnamhalgamaaGreatDoor
