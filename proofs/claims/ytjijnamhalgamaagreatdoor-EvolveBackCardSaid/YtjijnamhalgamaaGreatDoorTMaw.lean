/- The reference's order of a value that a graph may hold with itself. Two graphs with the same content are alike: the reference's Alike. The law EvolveBack, about the evaluator. -/
import Derived.Test.YtjijnamhalgamaaGreatDoorTMap
import Derived.Test.YtjijnamhalgamaaGreatDoorTMah
import Derived.Test.YtjijnamhalgamaaGreatDoorTMar
import Derived.Test.YtjijnamhalgamaaGreatDoorTMau
import Derived.Test.YtjijnamhalgamaaGreatDoorTMav
set_option linter.unusedVariables false
set_option maxRecDepth 4000
namespace Go.Proofs.YtjijnamhalgamaaGreatDoor
namespace AI
theorem orderL {g:GV} (hg:g.ok) (hl:Dx g):Ae (Ad tab) 43 [g.av,g.av] (· =.int .i64 0):=by
 have hV:=vR hg (AgR hl)
 obtain⟨_,⟨z,rfl⟩,hC⟩:=(classV (k:=g.k)).KI
 have hf:=fields0 (g:=g) (listsE (List.eq_nil_of_length_eq_zero hl.2.1))
 by_cases hn:JW g
 ·have hN:=nR1 hg hn
  have hM:=Amu (RG hn) (RG hn)
  rw[(AdW (RG hn) (RG hn)).2 ⟨rfl,rfl⟩]at hM
  refine Ac rfl rfl ?_
  (conv=>whnf);repeat' (first|((first|apply kE hV|apply kE hC|apply kE hN|apply kE AlH|apply kE hM|refine kA ?_|(apply Br.mk<;>intro hc))<;>first|exact hc.elim|conv=>whnf)|refine kB ?_)
  all_goals first|rfl|contradiction|omega
 ·have hN:=nR0 hg hn
  refine Ac rfl rfl ?_
  (conv=>whnf);repeat' (first|((first|apply kE hV|apply kE hC|apply kE hN|apply kE AlH|apply kE hf|refine kA ?_|(apply Br.mk<;>intro hc))<;>first|exact hc.elim|conv=>whnf)|refine kB ?_)
  all_goals first|rfl|contradiction|omega
theorem sameStrsF {l:List (List UInt8)} {n1 n2:Bool} (hl:l.length<2^62):Ae (Ad tab) 78 [.sl n1 (vs .str l),.sl n2 (vs .str l)] (· =.bool (decide True)):=by
 refine Ac rfl rfl ?_
 (conv=>whnf);repeat' (first|((first|refine kA ?_|(apply Br.mk<;>intro hc))<;>first|exact hc.elim|conv=>whnf)|refine kB ?_)
 all_goals first|omega|contradiction|skip
 refine Ag (fun m env s=>∃i:Nat,m=l.length-i∧env=[(0,.sl n1 (vs .str l)),(1,.sl n2 (vs .str l)),(5,.int .i64 i)]∧s=⟨[],0⟩) ?_ _ _ _ ⟨0,rfl,rfl,rfl⟩
 rintro _ _ _ ⟨i,rfl,rfl,rfl⟩
 refine⟨rfl,?_⟩
 (conv=>whnf);repeat' (first|((first|refine kA ?_|(apply Br.mk<;>intro hc))<;>first|exact hc.elim|conv=>whnf)|refine kB ?_)
 all_goals first|rfl|exact again.mk ⟨_,by omega,i+1,rfl,rfl,rfl⟩|contradiction
theorem AhH {ps:List GP} {n1 n2:Bool} (h:NT ps):Ae (Ad tab) 79 [.sl n1 (vs GP.av ps),.sl n2 (vs GP.av ps)] (· =.bool (decide True)):=by
 obtain⟨⟨hl,hp⟩,hlf⟩:=h
 refine Ac rfl rfl ?_
 (conv=>whnf);repeat' (first|((first|refine kA ?_|(apply Br.mk<;>intro hc))<;>first|exact hc.elim|conv=>whnf)|refine kB ?_)
 all_goals first|omega|contradiction|skip
 refine Ag (fun m env s=>∃i:Nat,m=ps.length-i∧env=[(0,.sl n1 (vs GP.av ps)),(1,.sl n2 (vs GP.av ps)),(5,.int .i64 i)]∧s=⟨[],0⟩) ?_ _ _ _ ⟨0,rfl,rfl,rfl⟩
 rintro _ _ _ ⟨i,rfl,rfl,rfl⟩
 refine⟨rfl,?_⟩
 by_cases hlt:i<ps.length
 ·have ho:=hp _ (List.getElem_mem hlt)
  have p0:=orderL (g:=(ps[i]).v) ho.1.2 (hlf _ (List.getElem_mem hlt))
  have Gf:nth (vs GP.av ps) i=some (ps[i]).av:=nVN hlt
  (conv=>whnf);repeat' (first|((first|refine Af Gf ?_|apply kE p0|refine kA ?_|(apply Br.mk<;>intro hc))<;>first|exact hc.elim|conv=>whnf)|refine kB ?_)
  all_goals first|exact again.mk ⟨_,by omega,i+1,rfl,rfl,rfl⟩|omega|contradiction
 ·(conv=>whnf);repeat' (first|((first|refine kA ?_|(apply Br.mk<;>intro hc))<;>first|exact hc.elim|conv=>whnf)|refine kB ?_)
  all_goals first|rfl|omega
structure CmpG (g:GG):Prop where
 n:g.nodes.length≤4000
 e:g.edges.length≤4000
 gn:∀n∈g.nodes,n.labels.length<2^62∧NT n.props
 ge:∀e∈g.edges,NT e.props
theorem cmpG_chk {g:GG} (hg:g.ok) (h:AZ g=0):CmpG g:=by
 obtain⟨_,h1,h2,h3,h4⟩:=RV hg h
 exact⟨by omega,by omega,fun n hn=>⟨by have:=(h3 n hn).1;omega,(h3 n hn).2⟩,fun e he=>h4 e he⟩
set_option maxHeartbeats 2000000 in
theorem samePartsF {a b:GG} (hg:CmpG a) (hS:SamG a b):Ae (Ad tab) 34 [a.av,b.av] (· =.bool (decide True)):=by
 have c1:=hg.n
 have c2:=hg.e
 have k1:=Agq hS.1
 have k2:=Agq hS.2
 have l1:=k1.1
 have l2:=k2.1
 refine Ac rfl rfl ?_
 (conv=>whnf);repeat' (first|((first|refine kA ?_|(apply Br.mk<;>intro hc))<;>first|exact hc.elim|conv=>whnf)|refine kB ?_)
 all_goals first|omega|contradiction|skip
 refine Ag (fun m env s=>∃i c:Nat,m=a.nodes.length-i∧env=[(2,.ref 0 0 0 0),(3,.ref 1 1 0 0),(5,.int .i64 i)]∧s=⟨[.arr 0 4 true true [a.av],.arr 1 4 true true [b.av]],c⟩) ?_ _ _ _ ⟨0,_,rfl,rfl,rfl⟩
 rintro _ _ _ ⟨i,c,rfl,rfl,rfl⟩
 refine⟨rfl,?_⟩
 by_cases hlt:i<a.nodes.length
 ·obtain⟨g1,g2⟩:=hg.gn _ (List.getElem_mem hlt)
  have e:=k1.2 i hlt (by omega)
  obtain⟨x,hx⟩:∃x,x=a.nodes[i]:=⟨_,rfl⟩
  obtain⟨y,hy⟩:∃y,y=b.nodes[i]'(by omega):=⟨_,rfl⟩
  have n1:nth (vs GN.av a.nodes) i=some x.av:=by rw[hx];exact nVN hlt
  have n2:nth (vs GN.av b.nodes) i=some y.av:=by rw[hy];exact nVN (by omega)
  rw[← hx]at g1 g2 e
  rw[← hy]at e
  clear hx hy
  obtain⟨y1,y2,y3,y4,y5⟩:=y
  simp only[Ako,GN.mk.injEq,true_and]at e
  obtain⟨rfl,rfl,rfl⟩:=e
  (conv=>whnf);repeat' (first|((first|refine Af n1 ?_|refine Af n2 ?_|refine Aq (sameStrsF g1) (fun _=>?_) (fun h=>absurd trivial h)|refine Aq (AhH g2) (fun _=>?_) (fun h=>absurd trivial h)|refine kA ?_|(apply Br.mk<;>intro hc))<;>first|exact hc.elim|conv=>whnf)|refine kB ?_)
  all_goals first|exact again.mk ⟨_,by omega,i+1,_,rfl,rfl,rfl⟩|omega|contradiction
 ·(conv=>whnf);repeat' (first|((first|refine kA ?_|(apply Br.mk<;>intro hc))<;>first|exact hc.elim|conv=>whnf)|refine kB ?_)
  all_goals try omega
  refine Ag (fun m env s=>∃i c:Nat,m=a.edges.length-i∧env=[(2,.ref 0 0 0 0),(3,.ref 1 1 0 0),(8,.int .i64 i)]∧s=⟨[.arr 0 4 true true [a.av],.arr 1 4 true true [b.av]],c⟩) ?_ _ _ _ ⟨0,_,rfl,rfl,rfl⟩
  rintro _ _ _ ⟨i,c,rfl,rfl,rfl⟩
  refine⟨rfl,?_⟩
  by_cases hlt:i<a.edges.length
  ·have g2:=hg.ge _ (List.getElem_mem hlt)
   have e:=k2.2 i hlt (by omega)
   obtain⟨x,hx⟩:∃x,x=a.edges[i]:=⟨_,rfl⟩
   obtain⟨y,hy⟩:∃y,y=b.edges[i]'(by omega):=⟨_,rfl⟩
   have n1:nth (vs GE.av a.edges) i=some x.av:=by rw[hx];exact nVN hlt
   have n2:nth (vs GE.av b.edges) i=some y.av:=by rw[hy];exact nVN (by omega)
   rw[← hx]at g2 e
   rw[← hy]at e
   clear hx hy
   obtain⟨y1,y2,y3,y4,y5,y6⟩:=y
   simp only[nrmE,GE.mk.injEq,true_and]at e
   obtain⟨rfl,rfl,rfl,rfl,rfl⟩:=e
   (conv=>whnf);repeat' (first|((first|refine Af n1 ?_|refine Af n2 ?_|refine Aq (AhH g2) (fun _=>?_) (fun h=>absurd trivial h)|refine kA ?_|(apply Br.mk<;>intro hc))<;>first|exact hc.elim|conv=>whnf)|refine kB ?_)
   all_goals first|exact again.mk ⟨_,by omega,i+1,_,rfl,rfl,rfl⟩|omega|contradiction
  ·(conv=>whnf);repeat' (first|((first|refine kA ?_|(apply Br.mk<;>intro hc))<;>first|exact hc.elim|conv=>whnf)|refine kB ?_)
   all_goals first|rfl|omega
theorem alikeF {a b:GG} (hc:CmpG a) (hS:SamG a b):Ae (Ad tab) 21 [a.av,b.av] (· =.bool (decide True)):=by
 have hP:=samePartsF (a:={a with Df:=b.Df,DC:=b.DC}) (b:=b) ⟨hc.n,hc.e,hc.gn,hc.ge⟩ hS
 have hS:Ae (Ad tab) 12 [GG.av {a with Df:=b.Df,DC:=b.DC},b.av] (· =.bool (decide True)):=by
  refine Ac rfl rfl ?_
  (conv=>whnf);repeat' (first|((first|refine Aq hP (fun _=>?_) (fun h=>absurd trivial h)|refine kA ?_|(apply Br.mk<;>intro hc))<;>first|exact hc.elim|conv=>whnf)|refine kB ?_)
  all_goals first|rfl|contradiction|omega
 refine Ac rfl rfl ?_
 (conv=>whnf);repeat' (first|((first|refine Aq hS (fun _=>?_) (fun h=>absurd trivial h)|refine kA ?_|(apply Br.mk<;>intro hc))<;>first|exact hc.elim|conv=>whnf)|refine kB ?_)
 all_goals first|rfl
instance (r:GR) (k:List UInt8):Decidable (Ago r k):=by unfold Ago;infer_instance
theorem mentionsP {s:List GR} {sn:Bool} {k:List UInt8} (hs:s.length<2^62):Ae (Ad tab) 18 [.sl sn (vs GR.av s),.str k] (fun v=>∃b,v=.bool b∧(b=false→∀r∈s,Ago r k)):=by
 refine Ac rfl rfl ?_
 (conv=>whnf);repeat' (first|((first|refine kA ?_|(apply Br.mk<;>intro hc))<;>first|exact hc.elim|conv=>whnf)|refine kB ?_)
 all_goals try omega
 refine Ag (fun z env st=>∃(i c:Nat),z=s.length-i∧i≤s.length∧(∀ r∈s.take i,Ago r k)∧env=[(1,.str k),(7,.sl sn (vs GR.av s)),(8,.int .i64 s.length),(9,.int .i64 i)]∧st=⟨[],c⟩) ?_ _ _ _ ⟨0,_,rfl,by omega,by simp,rfl,rfl⟩
 rintro _ _ _ ⟨i,c,rfl,hi,hx,rfl,rfl⟩
 refine⟨rfl,?_⟩
 by_cases hlt:i<s.length
 ·have Gf:nth (vs GR.av s) i=some (s[i]).av:=nVN hlt
  by_cases hf:Ago s[i] k
  ·have hx2:∀r∈s.take (i+1),Ago r k:=fun r hr=>by
        rw[List.take_succ_eq_append_getElem hlt,List.mem_append,List.mem_singleton]at hr
        rcases hr with hr|rfl
        ·exact hx r hr
        ·exact hf
   obtain⟨f1,f2,f3,f4⟩:=hf
   (conv=>whnf);repeat' (first|((first|refine Af Gf ?_|refine kA ?_|(apply Br.mk<;>intro hc))<;>first|exact hc.elim|conv=>whnf)|refine kB ?_)
   all_goals first
        |exact again.mk ⟨_,by omega,i+1,_,rfl,by omega,hx2,rfl,rfl⟩
        |omega
        |exact absurd ‹_› f1
        |exact absurd ‹_› f2
        |exact absurd ‹_› f3
        |exact absurd ‹_› f4
        |(exfalso;simp_all;done)
  ·(conv=>whnf);repeat' (first|((first|refine Af Gf ?_|refine kA ?_|(apply Br.mk<;>intro hc))<;>first|exact hc.elim|conv=>whnf)|refine kB ?_)
   all_goals first
        |exact⟨true,rfl,fun h=>Bool.noConfusion h⟩
        |omega
        |(exfalso;exact hf ⟨by assumption,by assumption,by assumption,by assumption⟩)
        |(exfalso;unfold Ago at hf;simp_all;done)
 ·rw[List.take_of_length_le (by omega)]at hx
  (conv=>whnf);repeat' (first|((first|refine kA ?_|(apply Br.mk<;>intro hc))<;>first|exact hc.elim|conv=>whnf)|refine kB ?_)
  all_goals first|exact⟨false,rfl,fun _=>hx⟩|omega
theorem freeP {g:GG} {lb k:List UInt8} (hN:g.nodes.length<2^62) (hb:∀n∈g.nodes,n.labels.length<2^62∧n.props.length<2^62∧∀p∈n.props,p.ok):Ae (Ad tab) 19 [g.av,.str lb,.str k] (fun v=>∃b,v=.bool b∧(b=true→∀n∈g.nodes,lb∈n.labels→AaO (ET n.props k))):=by
 refine Ac rfl rfl ?_
 (conv=>whnf);repeat' (first|((first|refine kA ?_|(apply Br.mk<;>intro hc))<;>first|exact hc.elim|conv=>whnf)|refine kB ?_)
 all_goals try omega
 refine Ag (fun z env st=>∃(i c:Nat),z=g.nodes.length-i∧i≤g.nodes.length∧(∀ n∈g.nodes.take i,lb∈n.labels→AaO (ET n.props k))∧env=[(1,.str lb),(2,.str k),(10,.sl g.nn (vs GN.av g.nodes)),(11,.int .i64 g.nodes.length),(12,.int .i64 i)]∧st=⟨[.arr 0 4 true true [g.av]],c⟩) ?_ _ _ _ ⟨0,_,rfl,by omega,by simp,rfl,rfl⟩
 rintro _ _ _ ⟨i,c,rfl,hi,hx,rfl,rfl⟩
 refine⟨rfl,?_⟩
 by_cases hlt:i<g.nodes.length
 ·obtain⟨b1,b2,b3⟩:=hb _ (List.getElem_mem hlt)
  obtain⟨n,hne⟩:∃n,n=g.nodes[i]:=⟨_,rfl⟩
  have Gf:nth (vs GN.av g.nodes) i=some n.av:=by rw[hne];exact nVN hlt
  rw[← hne]at b1 b2 b3
  have p1:=Nk (n:=n) (s:=lb) (by omega)
  have p2:=propB (l:=n.props) (nn:=n.pn) (k:=k) (by omega)
  rw[Vg]at p2
  obtain⟨_,⟨z,rfl,hz⟩,p3⟩:=(orderRN (VY (key:=k) b3)).KI
  have hx2:(lb∈n.labels→AaO (ET n.props k))→∀x∈g.nodes.take (i+1),lb∈x.labels→AaO (ET x.props k):=fun h x hm=>by
   rw[List.take_succ_eq_append_getElem hlt,←hne,List.mem_append,List.mem_singleton]at hm
   rcases hm with hm|rfl
   ·exact hx x hm
   ·exact h
  clear hne
  by_cases h1:lb∈n.labels
  ·rw[decide_eq_true h1]at p1
   by_cases h0:z=0
   ·have hx3:=hx2 fun _=>hz.1 h0
    subst h0
    (conv=>whnf);repeat' (first|((first|refine Af Gf ?_|apply kE p1|apply kE p2|apply kE p3|refine kA ?_|(apply Br.mk<;>intro hc))<;>first|exact hc.elim|conv=>whnf)|refine kB ?_)
    all_goals first|exact again.mk ⟨_,by omega,i+1,_,rfl,by omega,hx3,rfl,rfl⟩|omega|contradiction
   ·(conv=>whnf);repeat' (first|((first|refine Af Gf ?_|apply kE p1|apply kE p2|apply kE p3|refine kA ?_|(apply Br.mk<;>intro hc))<;>first|exact hc.elim|conv=>whnf)|refine kB ?_)
    all_goals first|exact⟨false,rfl,fun h=>Bool.noConfusion h⟩|omega|contradiction|exact absurd ‹_› h0
  ·rw[decide_eq_false h1]at p1
   have hx3:=hx2 fun h=>absurd h h1
   (conv=>whnf);repeat' (first|((first|refine Af Gf ?_|apply kE p1|refine kA ?_|(apply Br.mk<;>intro hc))<;>first|exact hc.elim|conv=>whnf)|refine kB ?_)
   all_goals first|exact again.mk ⟨_,by omega,i+1,_,rfl,by omega,hx3,rfl,rfl⟩|omega|contradiction
 ·rw[List.take_of_length_le (by omega)]at hx
  (conv=>whnf);repeat' (first|((first|refine kA ?_|(apply Br.mk<;>intro hc))<;>first|exact hc.elim|conv=>whnf)|refine kB ?_)
  all_goals first|exact⟨true,rfl,fun _=>hx⟩|omega
theorem free_chk {g:GG} {lb k:List UInt8} (hc:YU g) (h:∀n∈g.nodes,lb∈n.labels→AaO (ET n.props k)):freeG g lb k:=fun n hn hl hk=>by
 have h1:=h n hn hl
 have hk2:=hk
 obtain⟨p,hp,e⟩:=hk
 have hv:Dx (ET n.props k):=by
  unfold ET
  cases hf:n.props.find? (isK k)with
  |none=>
   rw[List.find?_eq_none]at hf
   exact absurd (decide_eq_true e) (hf p hp)
  |some q=>exact(hc.vg.n n hn).pl q (List.mem_of_find?_eq_some hf)
 exact AlA hv h1
set_option maxRecDepth 10000 in
set_option maxHeartbeats 4000000 in
theorem law_back:∀xs,likes Tryz.prog [25,26,46] xs→Ar (Ad tab) 6 xs ⟨[],0⟩ fun out _=>out=.ok (.bool true):=by
 intro xs h
 match xs,h with
 |[a,b,c],h=>
  obtain⟨h1,h2,h3,_⟩:=h
  obtain⟨g,rfl,hg⟩:=ZG h1
  obtain⟨sn,s,rfl,hsn,hsl,AoS⟩:=ZU h2
  obtain⟨m,rfl,hm⟩:=TB h3
  unfold Ln at hsl
  obtain⟨_,⟨b1,rfl,q1⟩,p1⟩:=(AjS (s:=s) (sn:=sn) hg (by omega)).KI
  obtain⟨_,⟨b2,rfl,q2⟩,p2⟩:=(AjT hm).KI
  refine Ai rfl rfl ?_
  cases b1 with
  |false=>
   (conv=>whnf);repeat' (first|((first|apply kE p1|refine Aq TD (fun _=>?_) (fun h=>absurd trivial h)|refine kA ?_|(apply Br.mk<;>intro hc))<;>first|exact hc.elim|conv=>whnf)|refine kB ?_)
   all_goals first|rfl|contradiction
  |true=>cases b2 with
   |false=>
    (conv=>whnf);repeat' (first|((first|apply kE p1|apply kE p2|refine Aq TD (fun _=>?_) (fun h=>absurd trivial h)|refine kA ?_|(apply Br.mk<;>intro hc))<;>first|exact hc.elim|conv=>whnf)|refine kB ?_)
    all_goals first|rfl|contradiction
   |true=>
    obtain⟨hsm,h44⟩:=q1 rfl
    obtain⟨_,⟨b3,rfl,q3⟩,p3⟩:=(mentionsP (s:=s) (sn:=sn) (k:=m.to) (by omega)).KI
    cases b3 with
    |true=>
     (conv=>whnf);repeat' (first|((first|apply kE p1|apply kE p2|apply kE p3|refine Aq TD (fun _=>?_) (fun h=>absurd trivial h)|refine kA ?_|(apply Br.mk<;>intro hc))<;>first|exact hc.elim|conv=>whnf)|refine kB ?_)
     all_goals first|rfl|contradiction
    |false=>
    have hfr:=q3 rfl
    obtain⟨_,⟨b4,rfl,q4⟩,p4⟩:=(freeP (g:=g) (lb:=m.label) (k:=m.to) (by have:=hsm.1;omega) (fun n hn=>⟨by have:=(hsm.2.2.1 n hn).1;omega,by have:=(hsm.2.2.1 n hn).2.2.1;omega,(hg.2.2.1 n hn).2.2.2.2.2.2⟩)).KI
    by_cases hF:m.k=3∧b4=false
    ·obtain⟨hk3,rfl⟩:=hF
     (conv=>whnf);repeat' (first|((first|apply kE p1|apply kE p2|apply kE p3|apply kE p4|refine Aq TD (fun _=>?_) (fun h=>absurd trivial h)|refine kA ?_|(apply Br.mk<;>intro hc))<;>first|exact hc.elim|conv=>whnf)|refine kB ?_)
     all_goals first|rfl|contradiction|exact absurd hk3 ‹_›
    have hF2:m.k=3→b4=true:=fun h=>by cases b4 with
     |true=>rfl
     |false=>exact absurd ⟨h,rfl⟩ hF
    clear hF
    have ho:OkE g s:=⟨hg,AoS,by omega⟩
    obtain⟨_,⟨ba,rfl,fa⟩,cA⟩:=(applyE1 (ln:=true) (l:=[m]) ho hsn (by omega) (by simp) (fun x hx=>by simp at hx;rw[hx];exact hm) (by simp)).KI
    have hA:Fz g s [m] 0=if(AbV g s m).e≠0 then⟨ED,[],0,(AbV g s m).e⟩else⟨(AbV g s m).g,(AbV g s m).s,1,0⟩:=by rw[Fz];rfl
    have hI:=invP hm
    by_cases hk:EW m=0∧m.k≤3
    case neg=>
     rw[invM_n hk]at hI
     generalize Fz g s [m] 0=A at cA
     by_cases hk3:m.k=3
     ·have:=hF2 hk3
      subst this
      (conv=>whnf);repeat' (first|((first|apply kE p1|apply kE p2|apply kE p3|apply kE p4|apply kE hI|apply kE cA|refine Aq TD (fun _=>?_) (fun h=>absurd trivial h)|refine kA ?_|(apply Br.mk<;>intro hc))<;>first|exact hc.elim|conv=>whnf)|refine kB ?_)
      all_goals first|rfl|contradiction|exact absurd hk3 ‹_›
     ·(conv=>whnf);repeat' (first|((first|apply kE p1|apply kE p2|apply kE p3|apply kE p4|apply kE hI|apply kE cA|refine Aq TD (fun _=>?_) (fun h=>absurd trivial h)|refine kA ?_|(apply Br.mk<;>intro hc))<;>first|exact hc.elim|conv=>whnf)|refine kB ?_)
      all_goals first|rfl|contradiction|exact absurd ‹_› hk3
    obtain⟨hM,hk3⟩:=hk
    rw[invM_y hM hk3]at hI
    have hkr:EC m.k:=by
     have:=(AfY hM).1
     unfold AcB at this
     have:1≤m.k:=Classical.byContradiction fun h=>this (.inl fun h2=>h h2.1)
     unfold EC;omega
    by_cases eA:(AbV g s m).e=0
    case neg=>
     rw[if_pos eA]at hA
     rw[hA]at cA
     generalize (AbV g s m).e=eN at cA eA
     (conv=>whnf);repeat' (first|((first|apply kE p1|apply kE p2|apply kE p3|apply kE p4|apply kE hI|apply kE cA|refine Aq TD (fun _=>?_) (fun h=>absurd trivial h)|refine kA ?_|(apply Br.mk<;>intro hc))<;>first|exact hc.elim|conv=>whnf)|refine kB ?_)
     all_goals first|rfl|contradiction|exact absurd ‹_› eA|omega|(exfalso;have:=hF2 ‹_›;subst this;simp_all;done)
    rw[if_neg (not_not_intro eA)]at hA
    rw[hA]at cA fa
    dsimp only at cA fa
    have hg0:=(stepE_ok eA).2.1
    have c0:=AcS hg0
    have pF:=Ajh (s:=s) (sn:=sn) (g:=g) (by omega) AoS hg (Xp hg) (fun _=>c0.vg.ends)
    by_cases eF:Ea s g=0
    case neg=>
     generalize Ea s g=eN at pF eF
     (conv=>whnf);repeat' (first|((first|apply kE p1|apply kE p2|apply kE p3|apply kE p4|apply kE hI|apply kE cA|apply kE pF|refine Aq TD (fun _=>?_) (fun h=>absurd trivial h)|refine kA ?_|(apply Br.mk<;>intro hc))<;>first|exact hc.elim|conv=>whnf)|refine kB ?_)
     all_goals first|rfl|contradiction|exact absurd ‹_› eF|omega|(exfalso;have:=hF2 ‹_›;subst this;simp_all;done)
    have hfree:m.k=3→freeG g m.label m.to:=fun h=>free_chk c0 (q4 (hF2 h))
    obtain⟨b,hB,hS,hcb⟩:=back_step ho hm eA (by have:=hsm.2.1;omega) hkr hfr hfree eF
    rw[eF]at pF
    have hAo:=ho.step hm
    have hm2:(Abo m).ok:=⟨hm.1,hm.2.1,hm.2.2.2.1,hm.2.2.1,hm.2.2.2.2.1,hm.2.2.2.2.2⟩
    have hms:∀x∈[Abo m],x.ok:=fun x hx=>by simp at hx;rw[hx];exact hm2
    obtain⟨_,⟨bb,rfl,fb⟩,cB⟩:=(applyE1 (ln:=true) (l:=[Abo m]) hAo fa (by have:=AdS (g:=g) (s:=s) (m:=m);omega) (by simp) hms (by simp)).KI
    have hBo:=Af7 (i:=0) hAo hms
    rw[hB]at cB hBo
    dsimp only at cB hBo
    have sA:=alikeF (cmpG_chk hBo.gk (AjX hcb)) hS
    have sR:=sameRules (n1:=bb) (n2:=sn) (L:=s) (by omega)
    clear c0 hcb hS hB hA
    (conv=>whnf);repeat' (first|((first|apply kE p1|apply kE p2|apply kE p3|apply kE p4|apply kE hI|apply kE cA|apply kE pF|apply kE cB|refine Aq sA (fun _=>?_) (fun h=>absurd trivial h)|refine Aq sR (fun _=>?_) (fun h=>absurd trivial h)|refine Aq TD (fun _=>?_) (fun h=>absurd trivial h)|refine kA ?_|(apply Br.mk<;>intro hc))<;>first|exact hc.elim|conv=>whnf)|refine kB ?_)
    all_goals first|rfl|contradiction|omega|(exfalso;have:=hF2 ‹_›;subst this;simp_all;done)
end AI
end Go.Proofs.YtjijnamhalgamaaGreatDoor
