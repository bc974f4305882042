/- Migrations one after the other, as plain functions. Slices within reach; clones of values, properties, strings; looking up a node of any graph. Copies: of any values, of properties, of a graph (evolve.copied). Migrations one after the other: the program's Apply. The worked example in the laws about migrations: reckoned by the kernel. The rules that a migration leaves: the reference's Rules. The rules that a migration leaves: the reference's Rules, proved. The law EvolveRules, about the evaluator. The law EvolveParts, about the evaluator. What migrations leave: valid rules, none violated. A renaming and its inverse: graph and rules are restored, as plain functions. -/
import Derived.Test.YtjijnamhalgamaaGreatDoorTMar
import Derived.Test.YtjijnamhalgamaaGreatDoorTMat
import Derived.Test.YtjijnamhalgamaaGreatDoorTMal
import Derived.Test.YtjijnamhalgamaaGreatDoorTMam
import Derived.Test.YtjijnamhalgamaaGreatDoorTMad
import Derived.Test.YtjijnamhalgamaaGreatDoorBMaa
import Derived.Test.YtjijnamhalgamaaGreatDoorTGrCode
import Derived.Test.YtjijnamhalgamaaGreatDoorTMah
import Derived.Test.YtjijnamhalgamaaGreatDoorTMap
set_option linter.unusedVariables false
set_option maxRecDepth 4000
namespace Go.Proofs.YtjijnamhalgamaaGreatDoor
namespace AI
theorem OY:ED.ok:=⟨by simp[Ln,ED],fun _=>rfl,by simp[ED],by simp[Ln,ED],fun _=>rfl,by simp[ED],by unfold I64 ED;dsimp only;omega,by unfold I64 ED;dsimp only;omega⟩
theorem LV {s:List UInt8} {m:GM} (hs:Ln s) (hm:m.ok):Ln (CS s m):=by
 unfold CS;split
 ·exact hm.2.2.2.1
 ·exact hs
theorem Af3 {r:GR} {m:GM} (hr:r.ok) (hm:m.ok):(D9 r m).ok:=by
 obtain⟨h1,h2,h3,h4,h5,h6⟩:=hr
 unfold D9
 split
 ·split
  ·exact⟨h1,h2,LV h3 hm,h4,h5,h6⟩
  ·split
   ·exact⟨h1,h2,h3,h4,LV h5 hm,LV h6 hm⟩
   ·exact⟨h1,h2,h3,h4,h5,h6⟩
 ·split
  ·split
   ·exact⟨h1,h2,h3,h4,h5,h6⟩
   ·exact⟨h1,h2,LV h3 hm,h4,h5,h6⟩
  ·split
   ·split
    ·exact⟨h1,h2,h3,LV h4 hm,h5,h6⟩
    ·exact⟨h1,h2,h3,h4,h5,h6⟩
   ·exact⟨h1,h2,h3,h4,h5,h6⟩
theorem Af4 {s:List GR} {m:GM} (hs:∀r∈s,r.ok) (hm:m.ok) {y:GR} (h:LH s m y):y.ok:=by
 unfold LH at h
 split at h
 ·rcases h with h|rfl
  ·exact hs _ h
  ·exact hm.2.2.2.2.2
 ·split at h
  ·exact hs _ h.1
  ·obtain⟨r,hr,_,rfl⟩:=AcM.1 h
   exact Af3 (hs r hr) hm
def isW (s:List GR) (m:GM) (W:List GR):Prop:=W.Pairwise (fun x y=>BX x y=true)∧W.length<2^61∧∀y,y∈W↔LH s m y
noncomputable def Jh (s:List GR) (m:GM):List GR:=by
 classical exact if h:∃W,isW s m W then Classical.choose h else[]
theorem V3 {s:List GR} {m:GM} {W:List GR} (h:isW s m W):Jh s m=W:=by
 have hx:∃W,isW s m W:=⟨W,h⟩
 unfold Jh
 rw[dif_pos hx]
 have k:=Classical.choose_spec hx
 exact NS Es k.1 h.1 fun y=>(k.2.2 y).trans (h.2.2 y).symm
theorem AcN {s:List GR} {m:GM} {y:GR} (h:y∈Jh s m):LH s m y:=by
 unfold Jh at h
 split at h
 ·rename_i hx
  exact((Classical.choose_spec hx).2.2 y).1 h
 ·cases h
theorem Aan {s:List GR} {m:GM} (hs:∀r∈s,r.ok) (hm:m.ok):∀r∈Jh s m,r.ok:=fun r hr=>Af4 hs hm (AcN hr)
theorem Xo {s:List GR} {m:GM}:(Jh s m).length<2^61:=by
 unfold Jh
 split
 ·rename_i hx
  exact(Classical.choose_spec hx).2.1
 ·simp
theorem Ajl {l:List GR} {nn:Bool} {m:GM} (hnn:nn=false→l=[]) (hl:l.length<2^61) (hok:∀r∈l,r.ok) (hm:m.ok):Ae (Ad tab) 24 [.sl nn (vs GR.av l),m.av]
 (fun v=>∃b,v=.BD [.sl b (vs GR.av (if IK l m=0 then Jh l m else[])),.int .i64 (IK l m)]∧(b=false→(if IK l m=0 then Jh l m else[])=[])):=by
 obtain⟨v,⟨h1,h2⟩,p⟩:=(AcO hnn hl hok hm).KI
 refine p.mono ?_
 rintro _ rfl
 by_cases h0:IK l m=0
 ·obtain⟨b,W,rfl,s1,l1,m1⟩:=h1.2 h0
  have e:=V3 (s:=l) (m:=m) ⟨s1,l1,m1⟩
  rw[if_pos h0,e,h0]
  exact⟨b,rfl,fun hb=>by
   have:=h2 b _ _ rfl hb
   cases W with
   |nil=>rfl
   |cons x T=>simp[vs]at this⟩
 ·rw[if_neg h0,h1.1 h0]
  exact⟨false,rfl,fun _=>rfl⟩
theorem Oi:V0.ok:=by unfold GV.ok V0 I64 Ln;dsimp only;refine⟨by omega,by omega,by omega,by simp,by simp,fun _=>rfl,by simp⟩
theorem Af5 {P:List GP} (h:∀p∈P,p.ok) {k:List UInt8}:(ET P k).ok:=by
 unfold ET
 cases hf:P.find? (isK k)with
 |none=>exact Oi
 |some p=>exact(h p (List.mem_of_find?_eq_some hf)).2
theorem Oj {op z:Int} {k:List UInt8} {v:GV} (h1:I64 op) (h2:I64 z) (h3:Ln k) (h4:v.ok):(Uz op z k v).ok:=⟨h1,h2,by unfold I64 Uz;dsimp only;omega,by unfold I64 Uz;dsimp only;omega,h3,h4⟩
theorem RU {n:Int} (h:0≤n∧n≤10):I64 n:=by unfold I64;omega
theorem AcP {n:GN} {m:GM} (hn:n.ok) (hm:m.ok):∀c∈CW n m,c.ok:=by
 obtain⟨n1,n2,n3,n4,n5,n6,n7⟩:=hn
 obtain⟨m1,m2,m3,m4,m5,m6⟩:=hm
 unfold CW
 intro c hc
 split at hc
 ·split at hc
  ·simp only[List.mem_cons,List.not_mem_nil,or_false]at hc
   rcases hc with rfl|rfl
   ·exact Oj (RU (by omega)) n1 m3 Oi
   ·exact Oj (RU (by omega)) n1 m4 Oi
  ·cases hc
 split at hc
 ·cases hc
 split at hc
 ·split at hc
  ·simp only[List.mem_cons,List.not_mem_nil,or_false]at hc
   rcases hc with rfl|rfl
   ·exact Oj (RU (by omega)) n1 m3 Oi
   ·exact Oj (RU (by omega)) n1 m4 (Af5 n7)
  ·cases hc
 split at hc
 ·split at hc
  ·simp only[List.mem_cons,List.not_mem_nil,or_false]at hc
   subst hc
   exact Oj (RU (by omega)) n1 m3 Oi
  ·cases hc
 split at hc
 ·split at hc
  ·cases hc
  ·simp only[List.mem_cons,List.not_mem_nil,or_false]at hc
   subst hc
   exact Oj (RU (by omega)) n1 m4 m5
 ·cases hc
theorem AcQ {e:GE} {m:GM} (he:e.ok) (hm:m.ok):∀c∈FI e m,c.ok:=by
 obtain⟨n1,n2,n3,n4,n5,n6,n7⟩:=he
 obtain⟨m1,m2,m3,m4,m5,m6⟩:=hm
 unfold FI
 intro c hc
 split at hc
 ·simp only[List.mem_cons,List.mem_map]at hc
  rcases hc with rfl|rfl|⟨p,hp,rfl⟩
  ·exact⟨RU (n:=7) (by omega),n1,RU (n:=0) (by omega),RU (n:=0) (by omega),by simp[Ln],Oi⟩
  ·exact⟨RU (n:=6) (by omega),n1,n2,n3,m4,Oi⟩
  ·exact Oj (RU (by omega)) n1 (n7 p hp).1 (n7 p hp).2
 ·cases hc
theorem Rq {g:GG} {m:GM} (hg:g.ok) (hm:m.ok):∀c∈(Gw g m).1,c.ok:=by
 have h0:∀c∈([]:List GC),c.ok:=fun c hc=>by cases hc
 unfold Gw
 split;· exact h0
 split;· exact h0
 split;· exact h0
 intro c hc
 unfold UA at hc
 rcases List.mem_append.1 hc with hc|hc
 ·obtain⟨n,hn,hc⟩:=List.mem_flatMap.1 hc
  exact AcP (hg.2.2.1 n hn) hm c hc
 ·obtain⟨n,hn,hc⟩:=List.mem_flatMap.1 hc
  exact AcQ (hg.2.2.2.2.2.1 n hn) hm c hc
theorem Abt {v:GV} (hv:v.ok) (h:Dx v):Gx 12 v.av:=by
 refine⟨v,rfl,hv,?_,by have:=h.2.1;omega,fun x hx=>?_⟩
 ·by_cases hk:v.k=4
  ·have:=(YT h hk).2.1;omega
  ·rw[AcR h hk];simp
 ·rw[List.eq_nil_of_length_eq_zero h.2.1]at hx;cases hx
theorem RV {g:GG} (hg:g.ok) (h:AZ g=0):Fair g:=by
 have hc:=AcS h
 have ha:=hc.vg.ask
 have hp:∀{P:List GP},P.length≤16→(∀ p∈P,p.ok)→Abc P→NT P:=fun h1 h2 h3=>⟨⟨by omega,fun p hp=>⟨h2 p hp,Abt (h2 p hp).2 (h3 p hp)⟩⟩,h3⟩
 refine⟨hg,ha.lN,ha.lE,fun n hn=>?_,fun e he=>?_⟩
 ·have v:=hc.vg.n n hn
  exact⟨by have:=v.a.lL;omega,hp v.a.lP (hg.2.2.1 n hn).2.2.2.2.2.2 v.pl⟩
 ·have v:=hc.vg.e e he
  exact hp v.a.lP (hg.2.2.2.2.2.1 e he).2.2.2.2.2.2 v.pl
theorem Xp {g:GG} (hg:g.ok) (h:AZ g=0):Look g:=by
 obtain⟨_,h1,h2,h3,h4⟩:=RV hg h
 refine⟨by omega,by omega,fun n hn=>?_,fun n hn=>?_,fun e he=>?_⟩
 ·have:=h3 n hn
  exact⟨by have:=this.1;omega,by have:=this.2.1.1;omega,fun p hp=>⟨(hg.2.2.1 n hn).2.2.2.2.2.2 p hp,this.2.2 p hp⟩⟩
 ·have:=h3 n hn
  exact⟨this.1,(hg.2.2.1 n hn).2.2.1,(hg.2.2.1 n hn).2.2.2.2.2.1,this.2.1⟩
 ·have:=(h4 e he).1.1;omega
theorem AcT {L:List GC}:∀{g:GG} {i:Nat},YU g→g.ok→(∀ c∈L,c.ok)→(RX g L i).1.ok∧((RX g L i).2.2=0→YU (RX g L i).1):=by
 induction L with
 |nil=>intro g i h ho _;exact⟨ho,fun _=>h⟩
 |cons c L ih=>
  intro g i h ho hc
  rw[RX]
  split
  ·exact⟨OY,fun k=>absurd k ‹_›⟩
  ·exact ih (AcU h) (Af6 ho h.vg.ask (hc c (by simp))) fun x hx=>hc x (by simp[hx])
theorem JL {g:GG} {L:List GC} (ho:g.ok) (hc:∀c∈L,c.ok):(Bq g L).1.ok∧((Bq g L).2.2=0→YU (Bq g L).1):=by
 unfold Bq
 split
 ·exact⟨OY,fun k=>absurd k ‹_›⟩
 ·rename_i h
  exact AcT (AcS (Classical.not_not.1 h)) ho hc
structure StE where
 e:Int
 g:GG
 s:List GR
noncomputable def AbV (g:GG) (s:List GR) (m:GM):StE:=
 if(Gw g m).2≠0 then⟨(Gw g m).2,ED,[]⟩
 else if(Bq g (Gw g m).1).2.2≠0 then⟨(Bq g (Gw g m).1).2.2,ED,[]⟩
 else if IK s m≠0 then⟨IK s m,ED,[]⟩
 else if Ea (Jh s m) (Bq g (Gw g m).1).1≠0 then⟨Ea (Jh s m) (Bq g (Gw g m).1).1,ED,[]⟩
 else⟨0,(Bq g (Gw g m).1).1,Jh s m⟩
structure RE where
 g:GG
 s:List GR
 n:Nat
 e:Int
noncomputable def Fz:GG→List GR→List GM→Nat→RE
 |g,s,[],i=>⟨g,s,i,0⟩
 |g,s,m::l,i=>if(AbV g s m).e≠0 then⟨ED,[],i,(AbV g s m).e⟩else Fz (AbV g s m).g (AbV g s m).s l (i+1)
structure OkE (g:GG) (s:List GR):Prop where
 gk:g.ok
 sk:∀r∈s,r.ok
 lk:s.length<2^61
theorem OkE.step {g:GG} {s:List GR} {m:GM} (h:OkE g s) (hm:m.ok):OkE (AbV g s m).g (AbV g s m).s:=by
 have hz:OkE ED []:=⟨OY,fun r hr=>(by cases hr),by simp⟩
 unfold AbV
 split;· exact hz
 split;· exact hz
 split;· exact hz
 split;· exact hz
 exact⟨(JL h.gk (Rq h.gk hm)).1,Aan h.sk hm,Xo⟩
theorem Af7:∀{l:List GM} {g:GG} {s:List GR} {i:Nat},OkE g s→(∀ m∈l,m.ok)→OkE (Fz g s l i).g (Fz g s l i).s:=by
 intro l
 induction l with
 |nil=>intro g s i h _;exact h
 |cons m l ih=>
  intro g s i h hm
  rw[Fz]
  split
  ·exact⟨OY,fun r hr=>(by cases hr),by simp⟩
  ·exact ih (h.step (hm m (by simp))) fun x hx=>hm x (by simp[hx])
section
variable {N:List GN} {E:List GE} {x y:Int} {gN gE:Nat} {vN vE:AV}
end
set_option maxRecDepth 100000 in
theorem Zm:EI (run (Ad tab) 80) 9 []=some (.bool true):=by kernel_rfl
section
open Go.Sort
end
section
open Go.Sort
end
theorem sameRules {L:List GR} {n1 n2:Bool} (hl:L.length<2^61):Ae (Ad tab) 13 [.sl n1 (vs GR.av L),.sl n2 (vs GR.av L)] (· =.bool (decide True)):=by
 refine Ac rfl rfl ?_
 (conv=>whnf);repeat' (first|((first|refine kA ?_|(apply Br.mk<;>intro hc))<;>first|exact hc.elim|conv=>whnf)|refine kB ?_)
 all_goals try omega
 refine Ag (fun m env s=>∃i:Nat,m=L.length-i∧env=[(0,.sl n1 (vs GR.av L)),(1,.sl n2 (vs GR.av L)),(5,.int .i64 i)]∧s=⟨[],0⟩) ?_ _ _ _ ⟨0,rfl,rfl,rfl⟩
 rintro _ _ _ ⟨i,rfl,rfl,rfl⟩
 refine⟨rfl,?_⟩
 by_cases hlt:i<L.length
 ·(conv=>whnf);repeat' (first|((first|refine Aj (neR _ _) ?_|refine Aes (fun hc=>?_) (fun hc=>?_)|refine kA ?_|(apply Br.mk<;>intro hc))<;>first|exact hc.elim|conv=>whnf)|refine kB ?_)
  all_goals first
   |exact again.mk ⟨_,by omega,i+1,rfl,rfl,rfl⟩
   |(exfalso;simp_all;done)
 ·(conv=>whnf);repeat' (first|((first|refine kA ?_|(apply Br.mk<;>intro hc))<;>first|exact hc.elim|conv=>whnf)|refine kB ?_)
  all_goals first|rfl
theorem TD:Ae (Ad tab) 9 [] (· =.bool (decide True)):=⟨.bool true,⟨80,Zm⟩,rfl⟩
theorem AjS {g:GG} {s:List GR} {sn:Bool} (hg:g.ok) (hs:s.length<2^63):Ae (Ad tab) 7 [g.av,.sl sn (vs GR.av s)] (fun v=>∃b,v=.bool b∧(b=true→SmG g 10 14∧s.length≤44)):=by
 obtain⟨_,⟨b,rfl,hb⟩,hp⟩:=(small hg (n:=10) (e:=14)).KI
 cases b with
 |false=>
  refine Ac rfl rfl ?_
  (conv=>whnf);repeat' (first|((first|apply kE hp|refine kA ?_|(apply Br.mk<;>intro hc))<;>first|exact hc.elim|conv=>whnf)|refine kB ?_)
  all_goals first|exact⟨false,rfl,fun h=>Bool.noConfusion h⟩|omega|contradiction
 |true=>
  by_cases h44:s.length≤44
  ·refine Ac rfl rfl ?_
   (conv=>whnf);repeat' (first|((first|apply kE hp|refine kA ?_|(apply Br.mk<;>intro hc))<;>first|exact hc.elim|conv=>whnf)|refine kB ?_)
   all_goals first|exact⟨_,rfl,fun _=>⟨hb rfl,h44⟩⟩|omega|contradiction
  ·refine Ac rfl rfl ?_
   (conv=>whnf);repeat' (first|((first|apply kE hp|refine kA ?_|(apply Br.mk<;>intro hc))<;>first|exact hc.elim|conv=>whnf)|refine kB ?_)
   all_goals first|exact⟨_,rfl,fun h=>absurd (of_decide_eq_true h) (by omega)⟩|exact⟨_,rfl,fun h=>Bool.noConfusion h⟩|omega|contradiction
theorem TF {s:List GR} {m:GM} (h:IK s m=0):EW m=0∧Du s:=by
 unfold IK at h
 split at h
 ·contradiction
 ·rename_i h1
  split at h
  ·omega
  ·rename_i h2;exact⟨Classical.not_not.1 h1,Classical.not_not.1 h2⟩
theorem AgA {s:List GR} {m:GM} (h:IK s m=0):(Jh s m).length≤41:=by
 have hv:=(TF h).2.1
 by_cases hx:∃W,isW s m W
 case neg=>unfold Jh;rw[dif_neg hx];simp
 obtain⟨W,hW⟩:=hx
 rw[V3 hW]
 classical
 have hn:W.Nodup:=hW.1.imp fun{a b} k e=>by rw[e,Es.irrefl]at k;cases k
 have hs:∀x∈W,x∈s++[m.r]++tl s m:=fun x hx=>by
  have:=(hW.2.2 x).1 hx
  unfold LH at this
  split at this
  ·rcases this with k|rfl<;>simp_all
  ·split at this
   ·simp[this.1]
   ·simp[this]
 by_cases k:m.k=6∨m.k=7
 ·have hs:∀x∈W,x∈s++[m.r]:=fun x hx=>by
   have:=(hW.2.2 x).1 hx
   unfold LH at this
   split at this
   ·rcases this with k|rfl<;>simp_all
   ·rw[if_pos (by omega)]at this;simp[this.1]
  have:=Hw hn hs
  simp at this;omega
 ·have hs:∀x∈W,x∈tl s m:=fun x hx=>by
   have:=(hW.2.2 x).1 hx
   unfold LH at this
   rwa [if_neg (by omega),if_neg (by omega)]at this
  have:=Hw hn hs
  have h2:(tl s m).length≤s.length:=by unfold tl;rw[List.length_map];exact List.length_filter_le ..
  omega
theorem AdS {g:GG} {s:List GR} {m:GM}:(AbV g s m).s.length≤41:=by
 unfold AbV
 split;· simp
 split;· simp
 split;· simp
 rename_i h
 split;· simp
 exact AgA (Classical.not_not.1 h)
theorem Vz {r:GR}:Dt r=0↔¬Acc r∧¬En r:=by
 unfold Dt
 by_cases h1:Acc r
 ·rw[if_pos h1];simp[h1]
 ·rw[if_neg h1]
  by_cases h2:En r
  ·rw[if_pos h2];simp[h2]
  ·rw[if_neg h2];simp[h1,h2]
theorem Ace {r:GR} {m:GM} (hm:EW m=0) (hr:Dt r=0):Dt (D9 r m)=0:=by
 obtain⟨_,hb,_⟩:=AfY hm
 obtain⟨h1,h2⟩:=Vz.1 hr
 have hto:ER m.k→AaA m.to:=fun h=>Classical.not_not.1 fun k=>hb (.inr (.inr ⟨h,k⟩))
 have hsw:∀{s:List UInt8},ER m.k→AaA s→AaA (CS s m):=fun{s} h k=>by
  unfold CS;split
  ·exact hto h
  ·exact k
 have AmY:∀{s:List UInt8},ER m.k→(s≠[]→AaA s)→CS s m≠[]→AaA (CS s m):=fun{s} h k=>by
  unfold CS;split
  ·exact fun _=>hto h
  ·exact k
 rw[Vz]
 unfold En at h2
 have n1:AaA r.name:=Classical.not_not.1 fun k=>h2 (.inl k)
 have n2:1≤r.k∧r.k≤5→AaA r.key:=fun h=>Classical.not_not.1 fun k=>h2 (.inr (.inl ⟨h,k⟩))
 have n3:r.fr≠[]→AaA r.fr:=fun h=>Classical.not_not.1 fun k=>h2 (.inr (.inr (.inl ⟨h,k⟩)))
 have n4:r.to≠[]→AaA r.to:=fun h=>Classical.not_not.1 fun k=>h2 (.inr (.inr (.inr ⟨h,k⟩)))
 have mk:∀x:GR,x.k=r.k→x.n=r.n→(r.key=[]∨(1≤r.k∧r.k≤5)→x.key=[]∨(1≤r.k∧r.k≤5))→(r.k≠6→x.fr=r.fr∧x.to=r.to)→AaA x.name→(1≤r.k∧r.k≤5→AaA x.key)→(x.fr≠[]→AaA x.fr)→(x.to≠[]→AaA x.to)→¬Acc x∧¬En x:=by
  intro x e1 e2 e3 e4 k1 k2 k3 k4
  have hnum:GH x↔GH r:=by unfold GH;rw[e1,e2]
  constructor
  ·intro hx
   apply h1
   unfold Acc at hx ⊢
   rw[e1,hnum]at hx
   rcases hx with hx|hx|⟨hx,hx2⟩|⟨hx,hx2⟩
   ·exact .inl hx
   ·exact .inr (.inl hx)
   ·refine .inr (.inr (.inl ⟨hx,fun hk=>?_⟩))
    rcases e3 (.inl hk)with k|k
    ·exact hx2 k
    ·exact hx k
   ·refine .inr (.inr (.inr ⟨hx,?_⟩))
    rw[(e4 hx).1,(e4 hx).2]at hx2
    exact hx2
  ·intro hx
   unfold En at hx
   rw[e1]at hx
   rcases hx with hx|⟨hx,hx2⟩|⟨hx,hx2⟩|⟨hx,hx2⟩
   ·exact hx k1
   ·exact hx2 (k2 hx)
   ·exact hx2 (k3 hx)
   ·exact hx2 (k4 hx)
 have same:=mk r rfl rfl id (fun _=>⟨rfl,rfl⟩) n1 n2 n3 n4
 unfold D9
 split
 ·rename_i hk
  have ht:ER m.k:=.inl hk
  split
  ·exact mk _ rfl rfl id (fun _=>⟨rfl,rfl⟩) (hsw ht n1) n2 n3 n4
  ·split
   ·rename_i h6
    exact mk _ rfl rfl id (fun h=>absurd h6 h) n1 n2 (AmY ht n3) (AmY ht n4)
   ·exact same
 ·split
  ·rename_i hk
   have ht:ER m.k:=.inr (.inl hk)
   split
   ·exact same
   ·exact mk _ rfl rfl id (fun _=>⟨rfl,rfl⟩) (hsw ht n1) n2 n3 n4
  ·split
   ·rename_i hk
    have ht:ER m.k:=.inr (.inr (.inl hk))
    split
    ·rename_i hn
     have h15:1≤r.k∧r.k≤5:=by have:=hn.1;unfold Jd at this;omega
     exact mk _ rfl rfl (fun _=>.inr h15) (fun _=>⟨rfl,rfl⟩) n1 (fun h=>hsw ht (n2 h)) n3 n4
    ·exact same
   ·exact same
theorem Ahv {s:List GR} {m:GM} (hs:∀r∈s,r.ok) (hl:s.length<2^61) (hm:m.ok) (h0:IK s m=0):isW s m (Jh s m):=by
 obtain⟨v,⟨h1,_⟩,_⟩:=(AcO (l:=s) (nn:=true) (m:=m) (fun h=>Bool.noConfusion h) hl hs hm).KI
 obtain⟨b,W,rfl,s1,l1,m1⟩:=h1.2 h0
 have hW:isW s m W:=⟨s1,l1,m1⟩
 rw[V3 hW];exact hW
theorem ZW {s:List GR} {m:GM} (hs:∀r∈s,r.ok) (hl:s.length<2^61) (hm:m.ok) (h0:IK s m=0):Du (Jh s m):=by
 have hW:=Ahv hs hl hm h0
 obtain⟨hM,hv⟩:=TF h0
 have hmem:∀y∈Jh s m,Dt y=0:=fun y hy=>by
  have hr:∀r∈s,Dt r=0:=fun r hr=>by
   obtain⟨i,hi,rfl⟩:=List.getElem_of_mem hr
   exact(hv.2 i hi hi).1
  have k:=(hW.2.2 y).1 hy
  unfold LH at k
  by_cases k6:m.k=6
  ·rw[if_pos k6]at k
   rcases k with k|rfl
   ·exact hr y k
   ·unfold IK at h0
    rw[if_neg (not_not_intro hM),if_neg (not_not_intro hv),if_pos k6]at h0
    unfold TU at h0
    rw[if_neg (not_not_intro hv)]at h0
    exact Classical.not_not.1 fun h=>by rw[if_pos h]at h0;exact h h0
  ·rw[if_neg k6]at k
   by_cases k7:m.k=7
   ·rw[if_pos k7]at k;exact hr y k.1
   ·rw[if_neg k7]at k
    obtain⟨r,h1,_,rfl⟩:=AcM.1 k
    exact Ace hM (hr r h1)
 have hlen:(Jh s m).length≤40:=by
  classical
  have hn:(Jh s m).Nodup:=hW.1.imp fun{a b} k e=>by rw[e,Es.irrefl]at k;cases k
  have h40:=hv.1
  by_cases k6:m.k=6
  ·have hlt:s.length≠40:=fun h=>by
        unfold IK at h0
        rw[if_neg (not_not_intro hM),if_neg (not_not_intro hv),if_pos k6]at h0
        unfold TU at h0
        rw[if_neg (not_not_intro hv)]at h0
        split at h0
        ·contradiction
        ·split at h0
         ·omega
         ·first|omega|(rw [if_pos h]at h0;omega)
   have:=Hw (W:=s++[m.r]) hn fun x hx=>by
        have k:=(hW.2.2 x).1 hx
        unfold LH at k
        rw[if_pos k6]at k
        rcases k with k|rfl
        ·simp[k]
        ·simp
   simp only[List.length_append,List.length_singleton]at this;omega
  ·by_cases k7:m.k=7
   ·have:=Hw (W:=s) hn fun x hx=>by
     have k:=(hW.2.2 x).1 hx
     unfold LH at k
     rw[if_neg k6,if_pos k7]at k;exact k.1
    omega
   ·have:=Hw (W:=tl s m) hn fun x hx=>by
     have k:=(hW.2.2 x).1 hx
     unfold LH at k
     rwa [if_neg k6,if_neg k7]at k
    have h2:(tl s m).length≤s.length:=by unfold tl;rw[List.length_map];exact List.length_filter_le ..
    omega
 refine⟨hlen,fun j hj hj2=>⟨hmem _ (List.getElem_mem hj2),fun h0=>?_⟩⟩
 exact Nq.1 (List.pairwise_iff_getElem.1 hW.1 (j-1) j (by omega) hj2 (by omega))
def Ago (r:GR) (k:List UInt8):Prop:=r.name≠k∧r.key≠k∧r.fr≠k∧r.to≠k
theorem Acq {x:List UInt8} {m:GM} (h:x≠m.to):CS (CS x m) (Abo m)=x:=by
 unfold CS
 by_cases e:x=m.fr
 ·rw[if_pos e]
  show(if m.to=m.to then m.fr else m.to)=x
  rw[if_pos rfl,e]
 ·rw[if_neg e]
  show(if x=m.to then m.fr else x)=x
  rw[if_neg h]
theorem Ajv {r:GR} {m:GM} (h:Ago r m.to):D9 (D9 r m) (Abo m)=r:=by
 obtain⟨h1,h2,h3,h4⟩:=h
 have bk:(Abo m).k=m.k:=rfl
 have bl:(Abo m).label=m.label:=rfl
 unfold D9
 rw[bk,bl]
 by_cases k1:m.k=1
 ·simp only[if_pos k1]
  by_cases hn:Jd r.k
  ·simp only[if_pos hn]
   rw[Acq h1]
  ·simp only[if_neg hn]
   by_cases h6:r.k=6
   ·simp only[if_pos h6]
    rw[if_neg hn,Acq h3,Acq h4]
   ·simp only[if_neg h6,if_neg hn]
 ·simp only[if_neg k1]
  by_cases k2:m.k=2
  ·simp only[if_pos k2]
   by_cases hn:Jd r.k
   ·simp only[if_pos hn]
   ·simp only[if_neg hn]
    rw[Acq h1]
  ·simp only[if_neg k2]
   by_cases k3:m.k=3
   ·simp only[if_pos k3]
    by_cases hn:Jd r.k∧r.name=m.label
    ·simp only[if_pos hn]
     rw[Acq h2]
    ·simp only[if_neg hn]
   ·simp only[if_neg k3]
theorem Ain {s:List GR} {m:GM} (hk:EC m.k) {y:GR}:LH s m y↔∃r∈s,y=D9 r m:=by
 unfold EC at hk
 unfold LH
 rw[if_neg (by omega),if_neg (by omega),AcM]
 constructor
 ·rintro⟨r,h1,_,h2⟩;exact⟨r,h1,h2⟩
 ·rintro⟨r,h1,h2⟩;exact⟨r,h1,fun h=>by have:=h.1;omega,h2⟩
theorem rul_back {s:List GR} {m:GM} (hs:∀r∈s,r.ok) (hm:m.ok) (hv:Du s) (hk:EC m.k) (h0:IK s m=0) (hf:∀r∈s,Ago r m.to):IK (Jh s m) (Abo m)=0∧Jh (Jh s m) (Abo m)=s:=by
 have h40:=hv.1
 have hW:=Ahv hs (by omega) hm h0
 have hM:=(TF h0).1
 have hv2:=ZW hs (by omega) hm h0
 have hM2:=AlB hM hk
 have hk2:EC (Abo m).k:=hk
 constructor
 ·unfold IK
  have hk3:=hk
  unfold EC at hk3
  rw[if_neg (not_not_intro hM2),if_neg (not_not_intro hv2),if_neg (by show¬m.k=6;omega),if_neg (by show¬m.k=7;omega)]
 ·refine V3 ⟨AeY hv,by omega,fun y=>?_⟩
  rw[Ain hk2]
  constructor
  ·intro hy
   exact⟨D9 y m,(hW.2.2 _).2 ((Ain hk).2 ⟨y,hy,rfl⟩),(Ajv (hf y hy)).symm⟩
  ·rintro⟨z,hz,rfl⟩
   obtain⟨r,hr,rfl⟩:=(Ain hk).1 ((hW.2.2 z).1 hz)
   rw[Ajv (hf r hr)]
   exact hr
theorem ex_map {α:Type} {F:α→α} {P:α→Prop} (hP:∀a,P (F a)↔P a) {l m:List α} (h:l.map F=m.map F):(∃ a∈l,P a)↔∃a∈m,P a:=by
 have k:∀l:List α,(∃ a∈l,P a)↔∃a∈l.map F,P a:=fun l=>by
  constructor
  ·rintro⟨a,h1,h2⟩;exact⟨F a,List.mem_map_of_mem h1,(hP a).2 h2⟩
  ·rintro⟨_,h1,h2⟩
   obtain⟨a,h3,rfl⟩:=List.mem_map.1 h1
   exact⟨a,h3,(hP a).1 h2⟩
 rw[k l,h,←k m]
theorem lone_map {r:GR} {N M:List GN} (h:N.map Ako=M.map Ako):lone r N↔lone r M:=by
 have hp:∀n,J7 r (Ako n)↔J7 r n:=fun n=>Iff.rfl
 have k:∀N:List GN,lone r N↔((N.map Ako).filter fun n=>decide (J7 r n)).Pairwise fun a b=>VX (ET a.props r.key) (ET b.props r.key)≠2:=fun N=>by
  rw[List.filter_map,List.pairwise_map]
  exact Iff.rfl
 rw[k N,h,←k M]
theorem labN_map {N M:List GN} (h:N.map Ako=M.map Ako) (z:Int):AmV N z=AmV M z:=by
 have k:∀N:List GN,AmV N z=(((N.map Ako).find? (VZ z)).getD N0).labels:=fun N=>by
  unfold AmV
  rw[List.find?_map]
  have e:(VZ z∘Ako)=VZ z:=rfl
  rw[e]
  cases N.find? (VZ z)<;>rfl
 rw[k N,h,←k M]
theorem outD_map {E F:List GE} (h:E.map nrmE=F.map nrmE) (x:List UInt8) (z:Int):LM E x z=LM F x z:=by
 have k:∀E:List GE,LM E x z=((E.map nrmE).filter fun e=>decide (e.ty=x∧e.fr=z)).length:=fun E=>by
  unfold LM
  rw[List.filter_map,List.length_map]
  rfl
 rw[k E,h,←k F]
theorem viol_sam {r:GR} {a b:GG} (h:SamG a b):DZ r a↔DZ r b:=by
 obtain⟨hN,hE⟩:=h
 unfold DZ
 by_cases h1:r.k=1
 ·rw[if_pos h1,if_pos h1,lone_map hN]
 ·rw[if_neg h1,if_neg h1]
  by_cases h2:r.k=2∨r.k=3
  ·rw[if_pos h2,if_pos h2]
   exact ex_map (F:=Ako) (fun n=>Iff.rfl) hN
  ·rw[if_neg h2,if_neg h2]
   by_cases h7:r.k=7
   ·rw[if_pos h7,if_pos h7]
    have e:∀n,MW r a n↔MW r b n:=fun n=>by unfold MW;rw[outD_map hE]
    rw[← ex_map (F:=Ako) (P:=MW r b) (fun n=>Iff.rfl) hN]
    exact⟨fun ⟨n,x,y⟩=>⟨n,x,(e n).1 y⟩,fun⟨n,x,y⟩=>⟨n,x,(e n).2 y⟩⟩
   ·rw[if_neg h7,if_neg h7]
    have e:∀x,DU r a x↔DU r b x:=fun x=>by unfold DU Jw;rw[labN_map hN,labN_map hN]
    rw[← ex_map (F:=nrmE) (P:=DU r b) (fun n=>Iff.rfl) hE]
    exact⟨fun ⟨n,x,y⟩=>⟨n,x,(e n).1 y⟩,fun⟨n,x,y⟩=>⟨n,x,(e n).2 y⟩⟩
theorem first_sam {s:List GR} {a b:GG} (h:SamG a b) (ha:AZ a=0) (hb:AZ b=0):Ea s a=Ea s b:=by
 have e:(fun r=>decide (DZ r a))=fun r=>decide (DZ r b):=by
  funext r;exact decide_eq_decide.2 (viol_sam h)
 unfold Ea
 rw[ha,hb,e]
theorem stepE_ok {g:GG} {s:List GR} {m:GM} (h0:(AbV g s m).e=0):
 EW m=0∧AZ g=0∧¬FU g m∧AcL g (UA g m)=some (AbV g s m).g∧IK s m=0∧(AbV g s m).s=Jh s m:=by
 unfold AbV at h0 ⊢
 split at h0;· contradiction
 split at h0;· contradiction
 split at h0;· contradiction
 split at h0;· contradiction
 rename_i h1 h2 h3 h4
 rw[if_neg h1,if_neg h2,if_neg h3,if_neg h4]
 have h1:=Classical.not_not.1 h1
 have e1:EW m=0:=Classical.not_not.1 fun k=>by rw[AfG k]at h1;exact k h1
 have e2:AZ g=0:=Classical.not_not.1 fun k=>by rw[AfH e1 k]at h1;exact k h1
 have e3:¬FU g m:=fun k=>by rw[AfI e1 e2 k]at h1;cases h1
 rw[AfJ e1 e2 e3]at h2 ⊢
 have h2:=Classical.not_not.1 h2
 refine⟨e1,e2,e3,?_,Classical.not_not.1 h3,rfl⟩
 unfold Bq at h2 ⊢
 rw[if_neg (not_not_intro e2)]at h2 ⊢
 exact runG_of h2
theorem back_step {g:GG} {s:List GR} {m:GM} (ho:OkE g s) (hm:m.ok) (h0:(AbV g s m).e=0) (hE:g.edges.length<4000) (hk:EC m.k) (hf:∀r∈s,Ago r m.to) (hfree:m.k=3→freeG g m.label m.to) (hv:Ea s g=0):
 ∃b,Fz (AbV g s m).g (AbV g s m).s [Abo m] 0=⟨b,s,1,0⟩∧SamG b g∧YU b:=by
 obtain⟨e1,e2,e3,hr,e5,e6⟩:=stepE_ok h0
 obtain⟨c1,c2,b,hb,hS⟩:=back_run e2 hE e1 hk e3 hfree hr
 have hvs:=(TF e5).2
 obtain⟨r1,r2⟩:=rul_back ho.sk hm hvs hk e5 hf
 have hcb:YU b:=chk_runG (AcS c1) hb
 have e7:Gw (AbV g s m).g (Abo m)=(UA (AbV g s m).g (Abo m),0):=AfJ (AlB e1 hk) c1 c2
 have e8:Bq (AbV g s m).g (UA (AbV g s m).g (Abo m))=(b,(UA (AbV g s m).g (Abo m)).length,0):=by
  unfold Bq
  rw[if_neg (fun k=>k c1),run_all hb,Nat.zero_add]
 have e9:Ea s b=0:=by rw[first_sam hS (AjX hcb) e2];exact hv
 refine⟨b,?_,hS,hcb⟩
 have st:AbV (AbV g s m).g (AbV g s m).s (Abo m)=⟨0,b,s⟩:=by
  rw[e6]
  generalize (AbV g s m).g=a at e7 e8 ⊢
  conv=>lhs;unfold AbV
  rw[if_neg (by rw[e7];exact not_not_intro rfl),if_neg (by rw[e7,e8];exact not_not_intro rfl),if_neg (by rw[r1];exact not_not_intro rfl),if_neg (by rw[e7,e8,r2];exact not_not_intro e9),e7,e8,r2]
 rw[Fz,st,if_neg (not_not_intro rfl),Fz]
end AI
end Go.Proofs.YtjijnamhalgamaaGreatDoor
