/- The law EvolveParts, about the evaluator. The law EvolveParts, about the evaluator. -/
import Derived.Test.YtjijnamhalgamaaGreatDoorPMav
import Derived.Test.YtjijnamhalgamaaGreatDoorPMau
set_option linter.unusedVariables false
set_option maxRecDepth 4000
namespace Go.Proofs.YtjijnamhalgamaaGreatDoor
namespace AI
theorem Ab2 {a:AV} (h:Like Tryz.prog 27 a):∃nn l,a=.sl nn (vs GM.av l)∧(nn=false→l=[])∧Ln l∧∀y∈l,y.ok:=by
 obtain⟨d,h⟩:=h
 obtain⟨d',_,nn,xs,rfl,h1,h2,h3⟩:=Tf Tryz.underlying27 h
 obtain⟨l,rfl,h4⟩:=KQ (f:=GM.av) (Q:=GM.ok) fun x hx=>by
  obtain⟨m,rfl,hm⟩:=Ti ⟨_,h3 x hx⟩
  exact⟨m,rfl,hm⟩
 exact⟨nn,l,rfl,fun h=>by have:=h1 h;simpa using this,Va (by simpa using h2),h4⟩
theorem Tj:Ae (Ad tab) 9 [] (· =.bool (decide True)):=⟨.bool true,⟨80,Zl⟩,rfl⟩
theorem Aj0 {g:GG} {s:List GR} {sn:Bool} (hg:g.ok) (hs:s.length<2^63):Ae (Ad tab) 7 [g.av,.sl sn (vs GR.av s)] (fun v=>∃b,v=.bool b∧(b=true→SmG g 10 14∧s.length≤44)):=by
 obtain⟨_,⟨b,rfl,hb⟩,hp⟩:=(small hg (n:=10) (e:=14)).LG
 cases b with
 |false=>
  refine Ac rfl rfl ?_
  (conv=>whnf);repeat' (first|(refine Aa hp ?_;rintro _ rfl;conv=>whnf)|(refine kA ?_;conv=>whnf)|(refine Br.mk (fun hc=>?_) fun hc=>?_<;>first|exact hc.elim|conv=>whnf)|(refine kB ?_))
  all_goals first|exact⟨false,rfl,fun h=>Bool.noConfusion h⟩|(exfalso;omega)|exact absurd rfl (by assumption)
 |true=>
  by_cases h44:s.length≤44
  ·refine Ac rfl rfl ?_
   (conv=>whnf);repeat' (first|(refine Aa hp ?_;rintro _ rfl;conv=>whnf)|(refine kA ?_;conv=>whnf)|(refine Br.mk (fun hc=>?_) fun hc=>?_<;>first|exact hc.elim|conv=>whnf)|(refine kB ?_))
   all_goals first|exact⟨_,rfl,fun _=>⟨hb rfl,h44⟩⟩|(exfalso;omega)|exact absurd rfl (by assumption)
  ·refine Ac rfl rfl ?_
   (conv=>whnf);repeat' (first|(refine Aa hp ?_;rintro _ rfl;conv=>whnf)|(refine kA ?_;conv=>whnf)|(refine Br.mk (fun hc=>?_) fun hc=>?_<;>first|exact hc.elim|conv=>whnf)|(refine kB ?_))
   all_goals first|exact⟨_,rfl,fun h=>absurd (of_decide_eq_true h) (by omega)⟩|exact⟨_,rfl,fun h=>Bool.noConfusion h⟩|(exfalso;omega)|exact absurd rfl (by assumption)
theorem Aop {l:List GM} {ln:Bool} (hl:l.length<2^63) (hok:∀m∈l,m.ok):Ae (Ad tab) 8 [.sl ln (vs GM.av l)] (fun v=>∃b,v=.bool b∧(b=true→l.length≤5∧∀m∈l,FP 12 m.v.av)):=by
 by_cases h5:l.length≤5
 case neg=>
  refine Ac rfl rfl ?_
  (conv=>whnf);repeat' (first  |(refine kA ?_;conv=>whnf)|(refine Br.mk (fun hc=>?_) fun hc=>?_<;>first|exact hc.elim|conv=>whnf)|(refine kB ?_))
  all_goals first|exact⟨false,rfl,fun h=>Bool.noConfusion h⟩|(exfalso;omega)
 refine Ac rfl rfl ?_
 (conv=>whnf);repeat' (first  |(refine kA ?_;conv=>whnf)|(refine Br.mk (fun hc=>?_) fun hc=>?_<;>first|exact hc.elim|conv=>whnf)|(refine kB ?_))
 all_goals first|(exfalso;omega)|skip
 refine Ag (fun z env st=>∃(i c:Nat),z=l.length-i∧i≤l.length∧(∀ m∈l.take i,FP 12 m.v.av)∧env=[(8,.sl ln (vs GM.av l)),(9,.int .i64 l.length),(10,.int .i64 i)]∧st=⟨[],c⟩) ?_ _ _ _ ⟨0,_,rfl,by omega,by simp,rfl,rfl⟩
 rintro _ _ _ ⟨i,c,rfl,hi,hx,rfl,rfl⟩
 refine⟨rfl,?_⟩
 by_cases hlt:i<l.length
 ·obtain⟨_,⟨b,rfl,hb⟩,p⟩:=(Aj1 (hok _ (List.getElem_mem hlt))).LG
  have Rh:nth (vs GM.av l) i=some (l[i]).av:=nVN hlt
  cases b with
  |false=>
   (conv=>whnf);repeat' (first|(apply Aj;(· exact Rh);conv=>whnf)|(refine Aa p ?_;rintro _ rfl;conv=>whnf)|(refine kA ?_;conv=>whnf)|(refine Br.mk (fun hc=>?_) fun hc=>?_<;>first|exact hc.elim|conv=>whnf)|(refine kB ?_))
   all_goals first|exact⟨false,rfl,fun h=>Bool.noConfusion h⟩|(exfalso;omega)|exact absurd rfl (by assumption)
  |true=>
   have hx2:∀m∈l.take (i+1),FP 12 m.v.av:=fun m hm=>by
        rw[List.take_succ_eq_append_getElem hlt,List.mem_append,List.mem_singleton]at hm
        rcases hm with hm|rfl
        ·exact hx m hm
        ·exact hb rfl
   (conv=>whnf);repeat' (first|(apply Aj;(· exact Rh);conv=>whnf)|(refine Aa p ?_;rintro _ rfl;conv=>whnf)|(refine kA ?_;conv=>whnf)|(refine Br.mk (fun hc=>?_) fun hc=>?_<;>first|exact hc.elim|conv=>whnf)|(refine kB ?_))
   all_goals first|exact again.mk ⟨_,by omega,i+1,_,rfl,by omega,hx2,rfl,rfl⟩|(exfalso;omega)|exact absurd rfl (by assumption)
 ·rw[List.take_of_length_le (by omega)]at hx
  (conv=>whnf);repeat' (first  |(refine kA ?_;conv=>whnf)|(refine Br.mk (fun hc=>?_) fun hc=>?_<;>first|exact hc.elim|conv=>whnf)|(refine kB ?_))
  all_goals first|exact⟨true,rfl,fun _=>⟨h5,hx⟩⟩|(exfalso;omega)
theorem MX {g:GG} (hg:g.ok) (h:SmG g 10 14):Om g:=by
 have h1:=h.1
 have h2:=h.2.1
 refine⟨by omega,by omega,fun n hn=>?_,fun e he=>?_⟩
 ·have k:=h.2.2.1 n hn
  have ho:=hg.2.2.1 n hn
  exact⟨ho,by have:=k.1;omega,by have:=k.2.2.1;omega,fun p hp=>⟨ho.2.2.2.2.2.2 p hp,(k.2.2.2 p hp).2⟩⟩
 ·have k:=h.2.2.2 e he
  have ho:=hg.2.2.2.2.2.1 e he
  exact⟨ho,by have:=k.2.1;omega,fun p hp=>⟨ho.2.2.2.2.2.2 p hp,(k.2.2 p hp).2⟩⟩
theorem Tn {g:GG} (hg:g.ok) (h:Xn g):Om g:=by
 obtain⟨_,h1,h2,h3,h4⟩:=OO hg (Aj2 h)
 refine⟨by omega,by omega,fun n hn=>?_,fun e he=>?_⟩
 ·have k:=h3 n hn
  exact⟨hg.2.2.1 n hn,by have:=k.1;omega,k.2.1.1,k.2.1.2⟩
 ·exact⟨hg.2.2.2.2.2.1 e he,(h4 e he).1.1,(h4 e he).1.2⟩
theorem Om.fine {g:GG} (h:Om g) (hl:∀n∈g.nodes,n.labels.length≤4000):Pm g:=by
 refine⟨h.nn,h.en,fun n hn=>?_,fun e he=>?_⟩
 ·have k:=(h.nodes n hn).2.2
  exact⟨hl n hn,by have:=k.1;omega,fun p hp=>⟨(k.2 p hp).1.2,(k.2 p hp).2⟩⟩
 ·have k:=(h.edges e he).2
  exact⟨by have:=k.1;omega,fun p hp=>⟨(k.2 p hp).1.2,(k.2 p hp).2⟩⟩
theorem XO {g:GG} (hg:g.ok) (h:SmG g 10 14):Pm g:=(MX hg h).fine fun n hn=>by have:=(h.2.2.1 n hn).1;omega
theorem Vb {g:GG} (hg:g.ok) (h:Xn g):Pm g:=(Tn hg h).fine fun n hn=>by have:=(h.vg.n n hn).a.lL;omega
theorem MZ {α:Type} {R:α→α→Prop} (h:∀x,R x x) (l:List α):Qs R l l:=⟨rfl,fun k _ _=>h _⟩
theorem Ad6 (g:GG):SG g g:=by
 have h0:∀v,Tq 12 v v=0:=fun v=>by have:=(AaH 12).anti v v;omega
 have hp:∀p:GP,SP p p:=fun p=>⟨rfl,h0 _⟩
 exact⟨MZ (fun n=>⟨rfl,rfl,MZ hp _⟩) _,MZ (fun e=>⟨rfl,rfl,rfl,rfl,MZ hp _⟩) _⟩
theorem Aj3 {a b:GG} (ha:Pm a) (hb:Pm b) (h1:a.Dc=b.Dc) (h2:a.Dw=b.Dw) (h:SG a b):Ae (Ad tab) 12 [a.av,b.av] (· =.bool (decide True)):=by
 have p:=AgI ha hb
 rw[decide_eq_true h]at p
 refine Ac rfl rfl ?_
 (conv=>whnf);repeat' (first|(refine Aa p ?_;rintro _ rfl;conv=>whnf)|(refine kA ?_;conv=>whnf)|(refine Br.mk (fun hc=>?_) fun hc=>?_<;>first|exact hc.elim|conv=>whnf)|(refine kB ?_))
 all_goals first|rfl|exact absurd h1 (by assumption)|exact absurd h2 (by assumption)|(exfalso;omega)
theorem Ad7 {n:Nat} {K:AV→Prop} (h:n≤5) (k:K (.int .i64 ((n / 2:Nat):Int))):Iw .i64 ((n:Int).tdiv 2) K:=by
 refine BD ?_ k
 have:n=0∨n=1∨n=2∨n=3∨n=4∨n=5:=by omega
 rcases this with rfl|rfl|rfl|rfl|rfl|rfl<;>decide
theorem Zm {s:List GR} {m:GM} (h:JV s m=0):FM m=0∧FD s:=by
 unfold JV at h
 split at h
 ·contradiction
 ·rename_i h1
  split at h
  ·omega
  ·rename_i h2;exact⟨Classical.not_not.1 h1,Classical.not_not.1 h2⟩
theorem AgJ {s:List GR} {m:GM} (h:JV s m=0):(Lp s m).length≤41:=by
 have hv:=(Zm h).2.1
 by_cases hx:∃W,isW s m W
 case neg=>unfold Lp;rw[dif_neg hx];simp
 obtain⟨W,hW⟩:=hx
 rw[Aal hW]
 classical
 have hn:W.Nodup:=hW.1.imp fun{a b} k e=>by rw[e,EK.irrefl]at k;cases k
 have hs:∀x∈W,x∈s++[m.r]++tl s m:=fun x hx=>by
  have:=(hW.2.2 x).1 hx
  unfold OM at this
  split at this
  ·rcases this with k|rfl<;>simp_all
  ·split at this
   ·simp[this.1]
   ·simp[this]
 by_cases k:m.k=6∨m.k=7
 ·have hs:∀x∈W,x∈s++[m.r]:=fun x hx=>by
   have:=(hW.2.2 x).1 hx
   unfold OM at this
   split at this
   ·rcases this with k|rfl<;>simp_all
   ·rw[if_pos (by omega)]at this;simp[this.1]
  have:=Na hn hs
  simp at this;omega
 ·have hs:∀x∈W,x∈tl s m:=fun x hx=>by
   have:=(hW.2.2 x).1 hx
   unfold OM at this
   rwa [if_neg (by omega),if_neg (by omega)]at this
  have:=Na hn hs
  have h2:(tl s m).length≤s.length:=by unfold tl;rw[List.length_map];exact List.length_filter_le ..
  omega
theorem Ad8 {g:GG} {s:List GR} {m:GM}:(stepM g s m).s.length≤41:=by
 unfold stepM
 split;· simp
 split;· simp
 split;· simp
 rename_i h
 split;· simp
 exact AgJ (Classical.not_not.1 h)
theorem AaI:∀{l:List GM} {g:GG} {s:List GR} {i:Nat},s.length≤44→(Dq g s l i).s.length≤44:=by
 intro l
 induction l with
 |nil=>intro g s i h;exact h
 |cons m l ih=>
  intro g s i h
  rw[Dq]
  split
  ·simp
  ·exact ih (by have:=Ad8 (g:=g) (s:=s) (m:=m);omega)
theorem ZI (m:GM):m.av.cells.length=15:=rfl
set_option maxRecDepth 10000 in
set_option maxHeartbeats 4000000 in
theorem Ack:∀xs,likes Tryz.prog [25,26,27] xs→Aq (Ad tab) 5 xs ⟨[],0⟩ fun out _=>out=.ok (.bool true):=by
 intro xs h
 match xs,h with
 |[a,b,c],h=>
  obtain⟨h1,h2,h3,_⟩:=h
  obtain⟨g,rfl,hg⟩:=ZE h1
  obtain⟨sn,s,rfl,hsn,hsl,AoE⟩:=ZJ h2
  obtain⟨ln,l,rfl,hln,hll,Acl⟩:=Ab2 h3
  unfold Ln at hsl hll
  obtain⟨_,⟨b1,rfl,q1⟩,p1⟩:=(Aj0 (s:=s) (sn:=sn) hg (by omega)).LG
  obtain⟨_,⟨b2,rfl,q2⟩,p2⟩:=(Aop (ln:=ln) (l:=l) (by omega) Acl).LG
  refine Ai rfl rfl ?_
  cases b1 with
  |false=>
   (conv=>whnf);repeat' (first|(refine Aa p1 ?_;rintro _ rfl;conv=>whnf)|(refine Ar Tj (fun _=>?_) (fun h=>absurd trivial h);conv=>whnf)|(refine kA ?_;conv=>whnf)|(refine Br.mk (fun hc=>?_) fun hc=>?_<;>first|exact hc.elim|conv=>whnf)|(refine kB ?_))
   all_goals first|rfl|exact absurd rfl (by assumption)
  |true=>cases b2 with
   |false=>
    (conv=>whnf);repeat' (first|((first|refine Aa p1 ?_|refine Aa p2 ?_);rintro _ rfl;conv=>whnf)|(refine Ar Tj (fun _=>?_) (fun h=>absurd trivial h);conv=>whnf)|(refine kA ?_;conv=>whnf)|(refine Br.mk (fun hc=>?_) fun hc=>?_<;>first|exact hc.elim|conv=>whnf)|(refine kB ?_))
    all_goals first|rfl|exact absurd rfl (by assumption)
   |true=>
    obtain⟨hsm,h44⟩:=q1 rfl
    obtain⟨h5,_⟩:=q2 rfl
    have ho:OkE g s:=⟨hg,AoE,by omega⟩
    obtain⟨k,hk⟩:∃k,k=l.length / 2:=⟨_,rfl⟩
    have htk:∀m∈l.take k,m.ok:=fun m hm=>Acl m (List.mem_of_mem_take hm)
    have hdk:∀m∈l.drop k,m.ok:=fun m hm=>Acl m (List.mem_of_mem_drop hm)
    have htl:(l.take k).length=k:=by rw[List.length_take];omega
    have hdl:(l.drop k).length=l.length-k:=List.length_drop ..
    obtain⟨_,⟨ba,rfl,fa⟩,cA⟩:=(ZK (ln:=ln) (l:=l) ho hsn (by omega) (by omega) Acl (MX hg hsm)).LG
    obtain⟨_,⟨bb,rfl,fb⟩,cB⟩:=(ZK (ln:=ln) (l:=l.take k) ho hsn (by omega) (by omega) htk (MX hg hsm)).LG
    have hsp:=Ada (a:=l.take k) (b:=l.drop k) (g:=g) (s:=s) (i:=0)
    rw[List.take_append_drop,htl]at hsp
    have hBo:=Aan (i:=0) ho htk
    have hBn:=YT (l:=l.take k) (g:=g) (s:=s) (i:=0)
    have AoF:=AaI (l:=l.take k) (g:=g) (i:=0) h44
    have hBs:(Dq g s (l.take k) 0).e=0→Om (Dq g s (l.take k) 0).g∧Pm (Dq g s (l.take k) 0).g:=fun h0=>by
     by_cases e:l.take k=[]
     ·rw[e,Dq];exact⟨MX hg hsm,XO hg hsm⟩
     ·have hc:=Xo (i:=0) ho htk h0 e
      exact⟨Tn hBo.gk hc,Vb hBo.gk hc⟩
    have hAs:(Dq g s l 0).e=0→Pm (Dq g s l 0).g:=fun h0=>by
     by_cases e:l=[]
     ·rw[e,Dq];exact XO hg hsm
     ·exact Vb (Aan ho Acl).gk (Xo ho Acl h0 e)
    have AoG:=AaI (l:=l) (g:=g) (i:=0) h44
    have hAn:=YT (l:=l) (g:=g) (s:=s) (i:=0)
    obtain⟨A,hA⟩:∃A,A=Dq g s l 0:=⟨_,rfl⟩
    obtain⟨B,hB⟩:∃B,B=Dq g s (l.take k) 0:=⟨_,rfl⟩
    rw[← hA]at cA fa hsp hAs hAn AoG
    rw[← hB]at cB fb hsp hBo hBn AoF hBs
    clear hA hB
    have eD:sub (vs GM.av l) ((k:Int)).toNat ((vs GM.av l).length-((k:Int)).toNat)=vs GM.av (l.drop k):=by
     rw[Jm,lV,Int.toNat_natCast];exact congrArg (vs GM.av) (List.take_of_length_le (by omega))
    have eT:sub (vs GM.av l) 0 (((k:Int)).toNat-0)=vs GM.av (l.take k):=by
     rw[Jm,Int.toNat_natCast,List.drop_zero];rfl
    by_cases eB:B.e=0
    case neg=>
     rw[if_pos eB]at hsp
     subst hsp
     (conv=>whnf);repeat' (first|((first|refine Aa p1 ?_|refine Aa p2 ?_);rintro _ rfl;conv=>whnf)|(refine Ad7 h5 ?_;rw[← hk];conv=>whnf)|((first|refine Aa cA ?_|refine Aa cB ?_);rintro _ rfl;conv=>whnf)|(refine need.mk (BJ ZI l) ?_;conv=>whnf)|(refine Bo eT ?_;conv=>whnf)|(refine Bo eD ?_;conv=>whnf)|(refine Ar Tj (fun _=>?_) (fun h=>absurd trivial h);conv=>whnf)|(refine kA ?_;conv=>whnf)|(refine Br.mk (fun hc=>?_) fun hc=>?_<;>first|exact hc.elim|conv=>whnf)|(refine kB ?_))
     all_goals first|rfl|exact absurd rfl (by assumption)|(exfalso;omega)
    rw[if_neg (not_not_intro eB),Nat.zero_add]at hsp
    obtain⟨hBS,hBF⟩:=hBs eB
    obtain⟨_,⟨bc,rfl,fc⟩,cC⟩:=(ZK (ln:=ln) (l:=l.drop k) hBo fb (by omega) (by omega) hdk hBS).LG
    have hsh:=YU (l:=l.drop k) (g:=B.g) (s:=B.s) (i:=k) (j:=0)
    have hCn:=YT (l:=l.drop k) (g:=B.g) (s:=B.s) (i:=0)
    rw[← hsp]at hsh
    obtain⟨C,hC⟩:∃C,C=Dq B.g B.s (l.drop k) 0:=⟨_,rfl⟩
    rw[← hC]at hsh hCn cC fc
    clear hC hsp
    obtain⟨s1,s2,s3,s4⟩:=hsh
    rw[eB]at cB
    have hBk:B.n=k:=by have:=hBn.2.2.1 eB;omega
    rw[← s1,←s2]at cC
    by_cases eC:C.e=0
    case neg=>
     rw[s3]at cA
     (conv=>whnf);repeat' (first|((first|refine Aa p1 ?_|refine Aa p2 ?_);rintro _ rfl;conv=>whnf)|(refine Ad7 h5 ?_;rw[← hk];conv=>whnf)|((first|refine Aa cA ?_|refine Aa cB ?_|refine Aa cC ?_);rintro _ rfl;conv=>whnf)|(refine need.mk (BJ ZI l) ?_;conv=>whnf)|(refine Bo eT ?_;conv=>whnf)|(refine Bo eD ?_;conv=>whnf)|(refine Ar Tj (fun _=>?_) (fun h=>absurd trivial h);conv=>whnf)|(refine kA ?_;conv=>whnf)|(refine Br.mk (fun hc=>?_) fun hc=>?_<;>first|exact hc.elim|conv=>whnf)|(refine kB ?_))
     all_goals first|rfl|exact absurd rfl (by assumption)|exact absurd (by assumption) eC|(exfalso;omega)
    have eA:A.e=0:=s3.trans eC
    rw[eC]at cC
    rw[eA]at cA
    have hAk:A.n=l.length:=by have:=hAn.2.2.1 eA;omega
    have sG:=Aj3 (a:=A.g) (b:=A.g) (hAs eA) (hAs eA) rfl rfl (Ad6 _)
    have sR:=Acm (n1:=ba) (n2:=bc) (L:=A.s) (by omega)
    (conv=>whnf);repeat' (first|((first|refine Aa p1 ?_|refine Aa p2 ?_);rintro _ rfl;conv=>whnf)|(refine Ad7 h5 ?_;rw[← hk];conv=>whnf)|((first|refine Aa cA ?_|refine Aa cB ?_|refine Aa cC ?_);rintro _ rfl;conv=>whnf)|(refine need.mk (BJ ZI l) ?_;conv=>whnf)|(refine Bo eT ?_;conv=>whnf)|(refine Bo eD ?_;conv=>whnf)|(refine Ar sG (fun _=>?_) (fun h=>absurd trivial h);conv=>whnf)|(refine Ar sR (fun _=>?_) (fun h=>absurd trivial h);conv=>whnf)|(refine Ar Tj (fun _=>?_) (fun h=>absurd trivial h);conv=>whnf)|(refine kA ?_;conv=>whnf)|(refine Br.mk (fun hc=>?_) fun hc=>?_<;>first|exact hc.elim|conv=>whnf)|(refine kB ?_))
    all_goals first|rfl|exact absurd rfl (by assumption)|(exfalso;omega)
end AI
end Go.Proofs.YtjijnamhalgamaaGreatDoor
