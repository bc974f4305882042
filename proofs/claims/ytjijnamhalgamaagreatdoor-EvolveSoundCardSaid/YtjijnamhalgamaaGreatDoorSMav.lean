/- Migrations one after the other: the program's Apply. The worked example in the laws about migrations: reckoned by the kernel. The rules that a migration leaves: the reference's Rules. The rules that a migration leaves: the reference's Rules, proved. The law EvolveRules, about the evaluator. The law EvolveParts, about the evaluator. What migrations leave: valid rules, none violated. -/
import Derived.Test.YtjijnamhalgamaaGreatDoorSMau
import Derived.Test.YtjijnamhalgamaaGreatDoorSGrCode
import Derived.Test.YtjijnamhalgamaaGreatDoorSMao
import Derived.Test.YtjijnamhalgamaaGreatDoorSMae
import Derived.Test.YtjijnamhalgamaaGreatDoorSMat
set_option linter.unusedVariables false
set_option maxRecDepth 4000
namespace Go.Proofs.YtjijnamhalgamaaGreatDoor
namespace AI
theorem Aie {l:List GR} {nn:Bool} (hl:l.length≤2000) (hn:nn=false→l=[]):Ae (Ad tab) 26 [.sl nn (vs GR.av l)] (· =.sl nn (vs GR.av l)):=by
 cases nn with
 |false=>
  obtain rfl:=hn rfl
  refine Ac rfl rfl ?_
  (conv=>whnf);repeat' (first|((first|refine kA ?_|(apply Br.mk<;>intro hc))<;>first|exact hc.elim|conv=>whnf)|refine kB ?_)
  rfl
 |true=>
  refine Ac rfl rfl ?_
  (conv=>whnf);repeat' (first|((first|refine kA ?_|(apply Br.mk<;>intro hc))<;>first|exact hc.elim|conv=>whnf)|refine kB ?_)
  refine Gt (Cj (f:=GR.av) (fun _=>rfl) l) (by rw[lV];omega) ?_
  (conv=>whnf);repeat' (first|((first|refine kA ?_|(apply Br.mk<;>intro hc))<;>first|exact hc.elim|conv=>whnf)|refine kB ?_)
  rw[lV,uV]
def Apy (r:RE) (v:AV):Prop:=∃b,v=.BD [r.g.av,.sl b (vs GR.av r.s),.int .i64 r.n,.int .i64 r.e]∧(b=false→r.s=[])
set_option maxHeartbeats 4000000 in
theorem Akz {g:GG} {s:List GR} {sn ln:Bool} {l:List GM} (ho:OkE g s) (hsn:sn=false→s=[]) (hs:s.length≤2000) (hl:l.length<2^62) (hm:∀m∈l,m.ok) (hS:Zn g):
 Ae (Ad tab) 10 [g.av,.sl sn (vs GR.av s),.sl ln (vs GM.av l)] (Apy (Fz g s l 0)):=by
 obtain⟨R,hR⟩:∃R,R=Fz g s l 0:=⟨_,rfl⟩
 rw[← hR]
 have pC:=Aie (l:=s) (nn:=sn) hs hsn
 refine Ac rfl rfl ?_
 (conv=>whnf);repeat' (first|((first|refine kE pC ?_|refine kA ?_|(apply Br.mk<;>intro hc))<;>first|exact hc.elim|conv=>whnf)|refine kB ?_)
 refine Ag (fun m env st=>∃(i c:Nat) (h:GG) (t:List GR) (b:Bool),m=l.length-i∧i≤l.length∧OkE h t∧(b=false→t=[])∧R=Fz h t (l.drop i) i∧(i=0→h=g)∧env=[(2,.sl ln (vs GM.av l)),(3,.ref 0 0 0 0),(6,.ref 1 1 0 0),(10,.sl b (vs GR.av t)),(21,.sl ln (vs GM.av l)),(22,.int .i64 l.length),(23,.int .i64 i)]∧st=⟨[.arr 0 4 true true [h.av],.arr 1 4 true true [ED.av]],c⟩) ?_ _ _ _ ⟨0,_,g,s,sn,rfl,by omega,ho,hsn,by rw[List.drop_zero];exact hR,fun _=>rfl,rfl,rfl⟩
 rintro _ _ _ ⟨i,c,h,t,b,rfl,hi,hot,hb,hall,h0,rfl,rfl⟩
 refine⟨rfl,?_⟩
 by_cases hlt:i<l.length
 ·have VQ:=hm _ (List.getElem_mem hlt)
  obtain⟨m,hme⟩:∃m,m=l[i]:=⟨_,rfl⟩
  have Gf:nth (vs GM.av l) i=some m.av:=by rw[hme];exact nVN hlt
  rw[List.drop_eq_getElem_cons hlt,Fz,←hme]at hall
  rw[← hme]at VQ
  obtain⟨_,⟨b1,rfl⟩,p1⟩:=(AfK hot.gk VQ (RV hot.gk)).KI
  by_cases h1:(Gw h m).2=0
  case neg=>
   have e:stepM h t m=⟨(Gw h m).2,ED,[]⟩:=by unfold stepM;rw[if_pos h1]
   rw[e,if_pos h1]at hall
   subst hall
   (conv=>whnf);repeat' (first|((first|(apply Af;(· exact Gf))|refine kE p1 ?_|refine kA ?_|(apply Br.mk<;>intro hc))<;>first|exact hc.elim|conv=>whnf)|refine kB ?_)
   all_goals first
        |exact⟨false,rfl,fun _=>rfl⟩
        |(exfalso;omega)
        |exact absurd (by assumption) h1
  have p2:=Ab7 (g:=h) (L:=(Gw h m).1) (nn:=b1) hot.gk (AfF (RV hot.gk)) (Rq hot.gk VQ)
  rw[h1]at p1
  by_cases h2:(Bq h (Gw h m).1).2.2=0
  case neg=>
   have e:stepM h t m=⟨(Bq h (Gw h m).1).2.2,ED,[]⟩:=by unfold stepM;rw[if_neg (not_not_intro h1),if_pos h2]
   rw[e,if_pos h2]at hall
   subst hall
   (conv=>whnf);repeat' (first|((first|(apply Af;(· exact Gf))|refine kE p1 ?_|refine kE p2 ?_|refine kA ?_|(apply Br.mk<;>intro hc))<;>first|exact hc.elim|conv=>whnf)|refine kB ?_)
   all_goals first
        |exact⟨false,rfl,fun _=>rfl⟩
        |(exfalso;omega)
        |exact absurd rfl (by assumption)
        |exact absurd (by assumption) h2
  rw[h2]at p2
  obtain⟨_,⟨b3,rfl,hb3⟩,p3⟩:=(Ajl (nn:=b) hb hot.lk hot.sk VQ).KI
  by_cases h3:IK t m=0
  case neg=>
   have e:stepM h t m=⟨IK t m,ED,[]⟩:=by unfold stepM;rw[if_neg (not_not_intro h1),if_neg (not_not_intro h2),if_pos h3]
   rw[e,if_pos h3]at hall
   subst hall
   (conv=>whnf);repeat' (first|((first|(apply Af;(· exact Gf))|refine kE p1 ?_|refine kE p2 ?_|refine kE p3 ?_|refine kA ?_|(apply Br.mk<;>intro hc))<;>first|exact hc.elim|conv=>whnf)|refine kB ?_)
   all_goals first
        |exact⟨false,rfl,fun _=>rfl⟩
        |(exfalso;omega)
        |exact absurd rfl (by assumption)
        |exact absurd (by assumption) h3
  rw[if_pos h3]at p3 hb3
  rw[h3]at p3
  obtain⟨hk,hkc⟩:=JL (L:=(Gw h m).1) hot.gk (Rq hot.gk VQ)
  have p4:=Aju (s:=Jh t m) (sn:=b3) (g:=(Bq h (Gw h m).1).1) (by have:=Xo (s:=t) (m:=m);omega) (Aan hot.sk VQ) hk (Xp hk)
  by_cases h4:Ea (Jh t m) (Bq h (Gw h m).1).1=0
  case neg=>
   have e:stepM h t m=⟨Ea (Jh t m) (Bq h (Gw h m).1).1,ED,[]⟩:=by unfold stepM;rw[if_neg (not_not_intro h1),if_neg (not_not_intro h2),if_neg (not_not_intro h3),if_pos h4]
   rw[e,if_pos h4]at hall
   subst hall
   (conv=>whnf);repeat' (first|((first|(apply Af;(· exact Gf))|refine kE p1 ?_|refine kE p2 ?_|refine kE p3 ?_|refine kE p4 ?_|refine kA ?_|(apply Br.mk<;>intro hc))<;>first|exact hc.elim|conv=>whnf)|refine kB ?_)
   all_goals first
        |exact⟨false,rfl,fun _=>rfl⟩
        |(exfalso;omega)
        |exact absurd rfl (by assumption)
        |exact absurd (by assumption) h4
  rw[h4]at p4
  have e:stepM h t m=⟨0,(Bq h (Gw h m).1).1,Jh t m⟩:=by unfold stepM;rw[if_neg (not_not_intro h1),if_neg (not_not_intro h2),if_neg (not_not_intro h3),if_neg (not_not_intro h4)]
  have ho2:=hot.step VQ
  rw[e]at ho2 hall
  rw[if_neg (not_not_intro rfl)]at hall
  dsimp only at ho2 hall
  (conv=>whnf);repeat' (first|((first|(apply Af;(· exact Gf))|refine kE p1 ?_|refine kE p2 ?_|refine kE p3 ?_|refine kE p4 ?_|refine kA ?_|(apply Br.mk<;>intro hc))<;>first|exact hc.elim|conv=>whnf)|refine kB ?_)
  all_goals first
   |(exfalso;omega)
   |exact absurd rfl (by assumption)
   |exact again.mk ⟨_,by omega,i+1,_,_,_,b3,rfl,by omega,ho2,hb3,hall,fun k=>(by omega),rfl,rfl⟩
 ·obtain rfl:i=l.length:=by omega
  rw[List.drop_length,Fz]at hall
  subst hall
  by_cases hz:l.length=0
  ·obtain rfl:=h0 hz
   have p5:=AhO hot.gk hS
   (conv=>whnf);repeat' (first|((first|refine kE p5 ?_|refine kA ?_|(apply Br.mk<;>intro hc))<;>first|exact hc.elim|conv=>whnf)|refine kB ?_)
   all_goals first
        |(exfalso;omega)
        |exact⟨b,rfl,hb⟩
  ·(conv=>whnf);repeat' (first|((first|refine kA ?_|(apply Br.mk<;>intro hc))<;>first|exact hc.elim|conv=>whnf)|refine kB ?_)
   all_goals first
        |(exfalso;omega)
        |exact⟨b,rfl,hb⟩
set_option maxRecDepth 100000 in
theorem Zm:EI (run (Ad tab) 80) 9 []=some (.bool true):=by kernel_rfl
section
open Go.Sort
end
section
open Go.Sort
end
theorem AbP {a:AV} (h:Like Tryz.prog 27 a):∃nn l,a=.sl nn (vs GM.av l)∧(nn=false→l=[])∧Ln l∧∀y∈l,y.ok:=by
 obtain⟨d,h⟩:=h
 obtain⟨d',_,nn,xs,rfl,h1,h2,h3⟩:=TA Tryz.underlying27 h
 obtain⟨l,rfl,h4⟩:=Ld (f:=GM.av) (Q:=GM.ok) fun x hx=>by
  obtain⟨m,rfl,hm⟩:=TB ⟨_,h3 x hx⟩
  exact⟨m,rfl,hm⟩
 exact⟨nn,l,rfl,fun h=>by have:=h1 h;simpa using this,Va (by simpa using h2),h4⟩
theorem TD:Ae (Ad tab) 9 [] (· =.bool (decide True)):=⟨.bool true,⟨80,Zm⟩,rfl⟩
theorem AjS {g:GG} {s:List GR} {sn:Bool} (hg:g.ok) (hs:s.length<2^63):Ae (Ad tab) 7 [g.av,.sl sn (vs GR.av s)] (fun v=>∃b,v=.bool b∧(b=true→SmG g 10 14∧s.length≤44)):=by
 obtain⟨_,⟨b,rfl,hb⟩,hp⟩:=(small hg (n:=10) (e:=14)).KI
 cases b with
 |false=>
  refine Ac rfl rfl ?_
  (conv=>whnf);repeat' (first|((first|refine kE hp ?_|refine kA ?_|(apply Br.mk<;>intro hc))<;>first|exact hc.elim|conv=>whnf)|refine kB ?_)
  all_goals first|exact⟨false,rfl,fun h=>Bool.noConfusion h⟩|(exfalso;omega)|exact absurd rfl (by assumption)
 |true=>
  by_cases h44:s.length≤44
  ·refine Ac rfl rfl ?_
   (conv=>whnf);repeat' (first|((first|refine kE hp ?_|refine kA ?_|(apply Br.mk<;>intro hc))<;>first|exact hc.elim|conv=>whnf)|refine kB ?_)
   all_goals first|exact⟨_,rfl,fun _=>⟨hb rfl,h44⟩⟩|(exfalso;omega)|exact absurd rfl (by assumption)
  ·refine Ac rfl rfl ?_
   (conv=>whnf);repeat' (first|((first|refine kE hp ?_|refine kA ?_|(apply Br.mk<;>intro hc))<;>first|exact hc.elim|conv=>whnf)|refine kB ?_)
   all_goals first|exact⟨_,rfl,fun h=>absurd (of_decide_eq_true h) (by omega)⟩|exact⟨_,rfl,fun h=>Bool.noConfusion h⟩|(exfalso;omega)|exact absurd rfl (by assumption)
theorem Aos {l:List GM} {ln:Bool} (hl:l.length<2^63) (hok:∀m∈l,m.ok):Ae (Ad tab) 8 [.sl ln (vs GM.av l)] (fun v=>∃b,v=.bool b∧(b=true→l.length≤5∧∀m∈l,Gx 12 m.v.av)):=by
 by_cases h5:l.length≤5
 case neg=>
  refine Ac rfl rfl ?_
  (conv=>whnf);repeat' (first|((first|refine kA ?_|(apply Br.mk<;>intro hc))<;>first|exact hc.elim|conv=>whnf)|refine kB ?_)
  all_goals first|exact⟨false,rfl,fun h=>Bool.noConfusion h⟩|(exfalso;omega)
 refine Ac rfl rfl ?_
 (conv=>whnf);repeat' (first|((first|refine kA ?_|(apply Br.mk<;>intro hc))<;>first|exact hc.elim|conv=>whnf)|refine kB ?_)
 all_goals first|(exfalso;omega)|skip
 refine Ag (fun z env st=>∃(i c:Nat),z=l.length-i∧i≤l.length∧(∀ m∈l.take i,Gx 12 m.v.av)∧env=[(8,.sl ln (vs GM.av l)),(9,.int .i64 l.length),(10,.int .i64 i)]∧st=⟨[],c⟩) ?_ _ _ _ ⟨0,_,rfl,by omega,by simp,rfl,rfl⟩
 rintro _ _ _ ⟨i,c,rfl,hi,hx,rfl,rfl⟩
 refine⟨rfl,?_⟩
 by_cases hlt:i<l.length
 ·obtain⟨_,⟨b,rfl,hb⟩,p⟩:=(AjT (hok _ (List.getElem_mem hlt))).KI
  have Gf:nth (vs GM.av l) i=some (l[i]).av:=nVN hlt
  cases b with
  |false=>
   (conv=>whnf);repeat' (first|((first|(apply Af;(· exact Gf))|refine kE p ?_|refine kA ?_|(apply Br.mk<;>intro hc))<;>first|exact hc.elim|conv=>whnf)|refine kB ?_)
   all_goals first|exact⟨false,rfl,fun h=>Bool.noConfusion h⟩|(exfalso;omega)|exact absurd rfl (by assumption)
  |true=>
   have hx2:∀m∈l.take (i+1),Gx 12 m.v.av:=fun m hm=>by
        rw[List.take_succ_eq_append_getElem hlt,List.mem_append,List.mem_singleton]at hm
        rcases hm with hm|rfl
        ·exact hx m hm
        ·exact hb rfl
   (conv=>whnf);repeat' (first|((first|(apply Af;(· exact Gf))|refine kE p ?_|refine kA ?_|(apply Br.mk<;>intro hc))<;>first|exact hc.elim|conv=>whnf)|refine kB ?_)
   all_goals first|exact again.mk ⟨_,by omega,i+1,_,rfl,by omega,hx2,rfl,rfl⟩|(exfalso;omega)|exact absurd rfl (by assumption)
 ·rw[List.take_of_length_le (by omega)]at hx
  (conv=>whnf);repeat' (first|((first|refine kA ?_|(apply Br.mk<;>intro hc))<;>first|exact hc.elim|conv=>whnf)|refine kB ?_)
  all_goals first|exact⟨true,rfl,fun _=>⟨h5,hx⟩⟩|(exfalso;omega)
theorem AbQ {g:GG} (hg:g.ok) (h:SmG g 10 14):Zn g:=by
 have h1:=h.1
 have h2:=h.2.1
 refine⟨by omega,by omega,fun n hn=>?_,fun e he=>?_⟩
 ·have k:=h.2.2.1 n hn
  have ho:=hg.2.2.1 n hn
  exact⟨ho,by have:=k.1;omega,by have:=k.2.2.1;omega,fun p hp=>⟨ho.2.2.2.2.2.2 p hp,(k.2.2.2 p hp).2⟩⟩
 ·have k:=h.2.2.2 e he
  have ho:=hg.2.2.2.2.2.1 e he
  exact⟨ho,by have:=k.2.1;omega,fun p hp=>⟨ho.2.2.2.2.2.2 p hp,(k.2.2 p hp).2⟩⟩
theorem TF {s:List GR} {m:GM} (h:IK s m=0):EW m=0∧Du s:=by
 unfold IK at h
 split at h
 ·contradiction
 ·rename_i h1
  split at h
  ·omega
  ·rename_i h2;exact⟨Classical.not_not.1 h1,Classical.not_not.1 h2⟩
theorem AgA {s:List GR} {m:GM} (h:IK s m=0):(Jh s m).length≤41:=by
 have hv:=(TF h).2.1
 by_cases hx:∃W,isW s m W
 case neg=>unfold Jh;rw[dif_neg hx];simp
 obtain⟨W,hW⟩:=hx
 rw[V3 hW]
 classical
 have hn:W.Nodup:=hW.1.imp fun{a b} k e=>by rw[e,Es.irrefl]at k;cases k
 have hs:∀x∈W,x∈s++[m.r]++tl s m:=fun x hx=>by
  have:=(hW.2.2 x).1 hx
  unfold LH at this
  split at this
  ·rcases this with k|rfl<;>simp_all
  ·split at this
   ·simp[this.1]
   ·simp[this]
 by_cases k:m.k=6∨m.k=7
 ·have hs:∀x∈W,x∈s++[m.r]:=fun x hx=>by
   have:=(hW.2.2 x).1 hx
   unfold LH at this
   split at this
   ·rcases this with k|rfl<;>simp_all
   ·rw[if_pos (by omega)]at this;simp[this.1]
  have:=Hw hn hs
  simp at this;omega
 ·have hs:∀x∈W,x∈tl s m:=fun x hx=>by
   have:=(hW.2.2 x).1 hx
   unfold LH at this
   rwa [if_neg (by omega),if_neg (by omega)]at this
  have:=Hw hn hs
  have h2:(tl s m).length≤s.length:=by unfold tl;rw[List.length_map];exact List.length_filter_le ..
  omega
theorem AdS {g:GG} {s:List GR} {m:GM}:(stepM g s m).s.length≤41:=by
 unfold stepM
 split;· simp
 split;· simp
 split;· simp
 rename_i h
 split;· simp
 exact AgA (Classical.not_not.1 h)
theorem AgB:∀{l:List GM} {g:GG} {s:List GR} {i:Nat},s.length≤44→(Fz g s l i).s.length≤44:=by
 intro l
 induction l with
 |nil=>intro g s i h;exact h
 |cons m l ih=>
  intro g s i h
  rw[Fz]
  split
  ·simp
  ·exact ih (by have:=AdS (g:=g) (s:=s) (m:=m);omega)
theorem Vz {r:GR}:Dt r=0↔¬badR r∧¬En r:=by
 unfold Dt
 by_cases h1:badR r
 ·rw[if_pos h1];simp[h1]
 ·rw[if_neg h1]
  by_cases h2:En r
  ·rw[if_pos h2];simp[h2]
  ·rw[if_neg h2];simp[h1,h2]
theorem Ace {r:GR} {m:GM} (hm:EW m=0) (hr:Dt r=0):Dt (D9 r m)=0:=by
 obtain⟨_,hb,_⟩:=AfY hm
 obtain⟨h1,h2⟩:=Vz.1 hr
 have hto:ER m.k→isName m.to:=fun h=>Classical.not_not.1 fun k=>hb (.inr (.inr ⟨h,k⟩))
 have hsw:∀{s:List UInt8},ER m.k→isName s→isName (CS s m):=fun{s} h k=>by
  unfold CS;split
  ·exact hto h
  ·exact k
 have AmY:∀{s:List UInt8},ER m.k→(s≠[]→isName s)→CS s m≠[]→isName (CS s m):=fun{s} h k=>by
  unfold CS;split
  ·exact fun _=>hto h
  ·exact k
 rw[Vz]
 unfold En at h2
 have n1:isName r.name:=Classical.not_not.1 fun k=>h2 (.inl k)
 have n2:1≤r.k∧r.k≤5→isName r.key:=fun h=>Classical.not_not.1 fun k=>h2 (.inr (.inl ⟨h,k⟩))
 have n3:r.fr≠[]→isName r.fr:=fun h=>Classical.not_not.1 fun k=>h2 (.inr (.inr (.inl ⟨h,k⟩)))
 have n4:r.to≠[]→isName r.to:=fun h=>Classical.not_not.1 fun k=>h2 (.inr (.inr (.inr ⟨h,k⟩)))
 have mk:∀x:GR,x.k=r.k→x.n=r.n→(r.key=[]∨(1≤r.k∧r.k≤5)→x.key=[]∨(1≤r.k∧r.k≤5))→(r.k≠6→x.fr=r.fr∧x.to=r.to)→isName x.name→(1≤r.k∧r.k≤5→isName x.key)→(x.fr≠[]→isName x.fr)→(x.to≠[]→isName x.to)→¬badR x∧¬En x:=by
  intro x e1 e2 e3 e4 k1 k2 k3 k4
  have hnum:GH x↔GH r:=by unfold GH;rw[e1,e2]
  constructor
  ·intro hx
   apply h1
   unfold badR at hx ⊢
   rw[e1,hnum]at hx
   rcases hx with hx|hx|⟨hx,hx2⟩|⟨hx,hx2⟩
   ·exact .inl hx
   ·exact .inr (.inl hx)
   ·refine .inr (.inr (.inl ⟨hx,fun hk=>?_⟩))
    rcases e3 (.inl hk)with k|k
    ·exact hx2 k
    ·exact hx k
   ·refine .inr (.inr (.inr ⟨hx,?_⟩))
    rw[(e4 hx).1,(e4 hx).2]at hx2
    exact hx2
  ·intro hx
   unfold En at hx
   rw[e1]at hx
   rcases hx with hx|⟨hx,hx2⟩|⟨hx,hx2⟩|⟨hx,hx2⟩
   ·exact hx k1
   ·exact hx2 (k2 hx)
   ·exact hx2 (k3 hx)
   ·exact hx2 (k4 hx)
 have same:=mk r rfl rfl id (fun _=>⟨rfl,rfl⟩) n1 n2 n3 n4
 unfold D9
 split
 ·rename_i hk
  have ht:ER m.k:=.inl hk
  split
  ·exact mk _ rfl rfl id (fun _=>⟨rfl,rfl⟩) (hsw ht n1) n2 n3 n4
  ·split
   ·rename_i h6
    exact mk _ rfl rfl id (fun h=>absurd h6 h) n1 n2 (AmY ht n3) (AmY ht n4)
   ·exact same
 ·split
  ·rename_i hk
   have ht:ER m.k:=.inr (.inl hk)
   split
   ·exact same
   ·exact mk _ rfl rfl id (fun _=>⟨rfl,rfl⟩) (hsw ht n1) n2 n3 n4
  ·split
   ·rename_i hk
    have ht:ER m.k:=.inr (.inr (.inl hk))
    split
    ·rename_i hn
     have h15:1≤r.k∧r.k≤5:=by have:=hn.1;unfold Jd at this;omega
     exact mk _ rfl rfl (fun _=>.inr h15) (fun _=>⟨rfl,rfl⟩) n1 (fun h=>hsw ht (n2 h)) n3 n4
    ·exact same
   ·exact same
theorem Ahv {s:List GR} {m:GM} (hs:∀r∈s,r.ok) (hl:s.length<2^61) (hm:m.ok) (h0:IK s m=0):isW s m (Jh s m):=by
 obtain⟨v,⟨h1,_⟩,_⟩:=(AcO (l:=s) (nn:=true) (m:=m) (fun h=>Bool.noConfusion h) hl hs hm).KI
 obtain⟨b,W,rfl,s1,l1,m1⟩:=h1.2 h0
 have hW:isW s m W:=⟨s1,l1,m1⟩
 rw[V3 hW];exact hW
theorem ZW {s:List GR} {m:GM} (hs:∀r∈s,r.ok) (hl:s.length<2^61) (hm:m.ok) (h0:IK s m=0):Du (Jh s m):=by
 have hW:=Ahv hs hl hm h0
 obtain⟨hM,hv⟩:=TF h0
 have hmem:∀y∈Jh s m,Dt y=0:=fun y hy=>by
  have hr:∀r∈s,Dt r=0:=fun r hr=>by
   obtain⟨i,hi,rfl⟩:=List.getElem_of_mem hr
   exact(hv.2 i hi hi).1
  have k:=(hW.2.2 y).1 hy
  unfold LH at k
  by_cases k6:m.k=6
  ·rw[if_pos k6]at k
   rcases k with k|rfl
   ·exact hr y k
   ·unfold IK at h0
    rw[if_neg (not_not_intro hM),if_neg (not_not_intro hv),if_pos k6]at h0
    unfold TU at h0
    rw[if_neg (not_not_intro hv)]at h0
    exact Classical.not_not.1 fun h=>by rw[if_pos h]at h0;exact h h0
  ·rw[if_neg k6]at k
   by_cases k7:m.k=7
   ·rw[if_pos k7]at k;exact hr y k.1
   ·rw[if_neg k7]at k
    obtain⟨r,h1,_,rfl⟩:=AcM.1 k
    exact Ace hM (hr r h1)
 have hlen:(Jh s m).length≤40:=by
  classical
  have hn:(Jh s m).Nodup:=hW.1.imp fun{a b} k e=>by rw[e,Es.irrefl]at k;cases k
  have h40:=hv.1
  by_cases k6:m.k=6
  ·have hlt:s.length≠40:=fun h=>by
        unfold IK at h0
        rw[if_neg (not_not_intro hM),if_neg (not_not_intro hv),if_pos k6]at h0
        unfold TU at h0
        rw[if_neg (not_not_intro hv)]at h0
        split at h0
        ·contradiction
        ·split at h0
         ·omega
         ·first|omega|(rw [if_pos h]at h0;omega)
   have:=Hw (W:=s++[m.r]) hn fun x hx=>by
        have k:=(hW.2.2 x).1 hx
        unfold LH at k
        rw[if_pos k6]at k
        rcases k with k|rfl
        ·simp[k]
        ·simp
   simp only[List.length_append,List.length_singleton]at this;omega
  ·by_cases k7:m.k=7
   ·have:=Hw (W:=s) hn fun x hx=>by
     have k:=(hW.2.2 x).1 hx
     unfold LH at k
     rw[if_neg k6,if_pos k7]at k;exact k.1
    omega
   ·have:=Hw (W:=tl s m) hn fun x hx=>by
     have k:=(hW.2.2 x).1 hx
     unfold LH at k
     rwa [if_neg k6,if_neg k7]at k
    have h2:(tl s m).length≤s.length:=by unfold tl;rw[List.length_map];exact List.length_filter_le ..
    omega
 refine⟨hlen,fun j hj hj2=>⟨hmem _ (List.getElem_mem hj2),fun h0=>?_⟩⟩
 exact Nq.1 (List.pairwise_iff_getElem.1 hW.1 (j-1) j (by omega) hj2 (by omega))
theorem Acf {g:GG} {s:List GR} {m:GM} (h:OkE g s) (hm:m.ok) (h0:(stepM g s m).e=0):Du (stepM g s m).s∧Ea (stepM g s m).s (stepM g s m).g=0:=by
 unfold stepM at h0 ⊢
 split at h0;· contradiction
 split at h0;· contradiction
 split at h0;· contradiction
 split at h0;· contradiction
 rename_i h1 h2 h3 h4
 rw[if_neg h1,if_neg h2,if_neg h3,if_neg h4]
 exact⟨ZW h.sk h.lk hm (Classical.not_not.1 h3),Classical.not_not.1 h4⟩
theorem AeW:∀{l:List GM} {g:GG} {s:List GR} {i:Nat},OkE g s→(∀ m∈l,m.ok)→(Fz g s l i).e=0→l≠[]→Du (Fz g s l i).s∧Ea (Fz g s l i).s (Fz g s l i).g=0:=by
 intro l
 induction l with
 |nil=>intro g s i _ _ _ h;exact absurd rfl h
 |cons m l ih=>
  intro g s i ho hm h _
  rw[Fz]at h ⊢
  by_cases h1:(stepM g s m).e≠0
  ·rw[if_pos h1]at h;exact absurd h h1
  ·rw[if_neg h1]at h ⊢
   cases l with
   |nil=>exact Acf ho (hm m (by simp)) (Classical.not_not.1 h1)
   |cons x l=>exact ih (ho.step (hm m (by simp))) (fun y hy=>hm y (by simp[hy])) h (by simp)
end AI
end Go.Proofs.YtjijnamhalgamaaGreatDoor
