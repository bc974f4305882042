/- Edges: the program's walk. The script between two graphs: the program. The worked example in the laws about scripts: reckoned by the kernel. The worked example, small graphs, the same changes. The law DeltaSettles, about the evaluator. Two scripts in a row: slices.Concat, delta.Join and the reference's. The law DeltaJoins, about the evaluator. -/
import Derived.Test.YthnehejdkajjhaaGreatDoorJMar
import Derived.Test.YthnehejdkajjhaaGreatDoorJMan
import Derived.Test.YthnehejdkajjhaaGreatDoorJGrCode
import Derived.Test.YthnehejdkajjhaaGreatDoorJMao
import Derived.Test.YthnehejdkajjhaaGreatDoorJMah
import Derived.Test.YthnehejdkajjhaaGreatDoorJDsP
import Derived.Test.YthnehejdkajjhaaGreatDoorJDsN
import Derived.Test.YthnehejdkajjhaaGreatDoorJRcM
import Derived.Test.YthnehejdkajjhaaGreatDoorJDtF
import Derived.Test.YthnehejdkajjhaaGreatDoorJMad
import Derived.Test.YthnehejdkajjhaaGreatDoorJMac
import Derived.Test.YthnehejdkajjhaaGreatDoorJMaj
set_option linter.unusedVariables false
set_option maxRecDepth 4000
namespace Go.Proofs.YthnehejdkajjhaaGreatDoor
namespace AI
theorem Ajd {E:List GE} {x:GE} (h:E.find? (XI x.id)=none):KO E x=[]:=by unfold KO;rw[h]
theorem Ajf {E:List GE} {x y:GE} (h:E.find? (XI x.id)=some y) (hm:Ci x y=true):KO E x=[]:=by unfold KO;rw[h];exact if_pos hm
theorem Aje {E:List GE} {x y:GE} (h:E.find? (XI x.id)=some y) (hm:Ci x y=false):KO E x=y.props:=by unfold KO;rw[h];exact if_neg (by rw[hm];exact Bool.false_ne_true)
set_option maxHeartbeats 2000000 in
theorem ApM {o0 o1 r1 r2 r3 r4:Obj} {ga gs c0 n:Nat} {fa fb:Bool} {A:List GC} {a b:GG} (hn:n=A.length) (hA:A.length≤7000) (ha:CX a) (hb:CX b):
 Am (Ac tab) 67 [.ref 3 gs 0 0,a.av,b.av] ⟨[o0,o1,.arr ga 10 fa true (vs GC.av A),.arr gs 1 true false [cl fb (.own 2 ga 0 n)],r1,r2,r3,r4],c0⟩ (fun out s'=>∃(c' ga':Nat) (WS WT:Bool) (r5 r6:Obj),out=.ok (.BG [])∧s'=⟨[o0,o1,.arr ga' 10 WS true (vs GC.av (A++Ro a b)),.arr gs 1 true false [cl WT (.own 2 ga' 0 (A++Ro a b).length)],r1,r2,r3,r4,r5,r6],c'⟩∧(A++Ro a b).length≤14000):=by
 have a1:=ha.nn
 have a2:=ha.en
 have b1:=hb.nn
 have b2:=hb.en
 refine Ah rfl rfl ?_
 (conv=>whnf);repeat' (first  |(refine kA ?_;conv=>whnf)|(refine Br.mk (fun hc=>?_) fun hc=>?_<;>first|exact hc.elim|conv=>whnf)|(refine kB ?_))
 refine Af (fun z env s=>∃(i c ga n:Nat) (fa fb:Bool) (D:List GC),z=b.edges.length-i∧i≤b.edges.length∧D=A++((b.edges.take i).filter (BZ a.edges)).map newE∧n=D.length∧D.length≤A.length+i∧env=[(0,.ref 3 gs 0 0),(4,.ref 8 c0 0 0),(5,.ref 9 (c0+1) 0 0),(15,.sl b.en (vs GE.av b.edges)),(16,.int .i64 b.edges.length),(17,.int .i64 i)]∧s=⟨[o0,o1,.arr ga 10 fa true (vs GC.av D),.arr gs 1 true false [cl fb (.own 2 ga 0 n)],r1,r2,r3,r4,.arr c0 4 true true [a.av],.arr (c0+1) 4 true true [b.av]],c⟩) ?_ _ _ _ ⟨0,_,_,_,_,_,A,rfl,by omega,by simp,hn,by omega,by first|rfl|(rw [← lV (f:=GE.av) b.edges];rfl),rfl⟩
 clear hn
 rintro _ _ _ ⟨i,c,ga,n,fa,fb,D,rfl,hi,hD,hn,hDl,rfl,rfl⟩
 refine⟨rfl,?_⟩
 by_cases hlt:i<b.edges.length
 ·have hs:((b.edges.take (i+1)).filter (BZ a.edges)).map newE=((b.edges.take i).filter (BZ a.edges)).map newE++if BZ a.edges b.edges[i]=true then[newE b.edges[i]]else[]:=DK hlt
  have hq:=AjI ha (id:=b.edges[i].id)
  unfold JE at hq
  cases hf:a.edges.find? (XI b.edges[i].id)with
  |none=>
   rw[hf]at hq
   have hg:BZ a.edges b.edges[i]=true:=by unfold BZ;rw[hf]
   ·rw[if_pos hg]at hs
    have hD2:D++[newE b.edges[i]]=A++((b.edges.take (i+1)).filter (BZ a.edges)).map newE:=by rw[hs,hD,List.append_assoc]
    (conv=>whnf);repeat' (first|(refine Aa hq ?_;rintro _ rfl;conv=>whnf)|(refine kA ?_;conv=>whnf)|(refine Br.mk (fun hc=>?_) fun hc=>?_<;>first|exact hc.elim|conv=>whnf)|(refine kB ?_))
    all_goals try (exfalso;omega)
    refine(add8 (A:=D) (x:=newE b.edges[i]) hn (by omega)).mono ?_
    rintro _ _ ⟨c2,ga2,fa2,fb2,rfl,rfl⟩
    conv=>whnf
    try (apply Ae rfl;conv=>whnf)
    (conv=>whnf);repeat' (first  |(refine kA ?_;conv=>whnf)|(refine Br.mk (fun hc=>?_) fun hc=>?_<;>first|exact hc.elim|conv=>whnf)|(refine kB ?_))
    all_goals first|exact again.mk ⟨_,by omega,i+1,_,_,_,_,_,D++[newE b.edges[i]],rfl,by omega,hD2,hn,by omega,rfl,rfl⟩|exact again.mk ⟨_,by omega,i+1,_,_,_,_,_,D++[newE b.edges[i]],rfl,by omega,hD2,rfl,by simp;omega,rfl,rfl⟩|(exfalso;omega)
  |some y=>
   rw[hf]at hq
   have hg:BZ a.edges b.edges[i]=Ci b.edges[i] y:=by unfold BZ;rw[hf]
   have hm:=ApQ (x:=y) (y:=b.edges[i])
   rw[XG]at hm
   cases hmv:Ci b.edges[i] y
   ·rw[hmv]at hg hm
    ·rw[if_neg (by rw[hg];exact Bool.false_ne_true),List.append_nil]at hs
     rw[← hs]at hD
     (conv=>whnf);repeat' (first|((first|refine Aa hq ?_|refine Aa hm ?_);rintro _ rfl;conv=>whnf)|(refine kA ?_;conv=>whnf)|(refine Br.mk (fun hc=>?_) fun hc=>?_<;>first|exact hc.elim|conv=>whnf)|(refine kB ?_))
     all_goals first|exact again.mk ⟨_,by omega,i+1,_,_,_,_,_,D,rfl,by omega,hD,hn,by omega,rfl,rfl⟩|exact again.mk ⟨_,by omega,i+1,_,_,_,_,_,D,rfl,by omega,hD,rfl,by simp;omega,rfl,rfl⟩|(exfalso;omega)
   ·rw[hmv]at hg hm
    ·rw[if_pos hg]at hs
     have hD2:D++[newE b.edges[i]]=A++((b.edges.take (i+1)).filter (BZ a.edges)).map newE:=by rw[hs,hD,List.append_assoc]
     (conv=>whnf);repeat' (first|((first|refine Aa hq ?_|refine Aa hm ?_);rintro _ rfl;conv=>whnf)|(refine kA ?_;conv=>whnf)|(refine Br.mk (fun hc=>?_) fun hc=>?_<;>first|exact hc.elim|conv=>whnf)|(refine kB ?_))
     all_goals try (exfalso;omega)
     refine(add8 (A:=D) (x:=newE b.edges[i]) hn (by omega)).mono ?_
     rintro _ _ ⟨c2,ga2,fa2,fb2,rfl,rfl⟩
     conv=>whnf
     try (apply Ae rfl;conv=>whnf)
     (conv=>whnf);repeat' (first  |(refine kA ?_;conv=>whnf)|(refine Br.mk (fun hc=>?_) fun hc=>?_<;>first|exact hc.elim|conv=>whnf)|(refine kB ?_))
     all_goals first|exact again.mk ⟨_,by omega,i+1,_,_,_,_,_,D++[newE b.edges[i]],rfl,by omega,hD2,hn,by omega,rfl,rfl⟩|exact again.mk ⟨_,by omega,i+1,_,_,_,_,_,D++[newE b.edges[i]],rfl,by omega,hD2,rfl,by simp;omega,rfl,rfl⟩|(exfalso;omega)
 rw[List.take_of_length_le (by omega)]at hD
 have hD1:D.length≤7100:=by omega
 clear hDl
 obtain⟨E,hE⟩:∃E,E=D:=⟨_,rfl⟩
 subst hE
 have hDE:=hD
 clear hD
 (conv=>whnf);repeat' (first  |(refine kA ?_;conv=>whnf)|(refine Br.mk (fun hc=>?_) fun hc=>?_<;>first|exact hc.elim|conv=>whnf)|(refine kB ?_))
 all_goals first|(exfalso;omega)|skip
 refine Af (fun z env s=>∃(i c ga n:Nat) (fa fb:Bool) (D:List GC),z=b.edges.length-i∧i≤b.edges.length∧D=E++(b.edges.take i).flatMap (D8 a.edges)∧n=D.length∧D.length≤E.length+60*i∧env=[(0,.ref 3 gs 0 0),(4,.ref 8 c0 0 0),(48,.sl b.en (vs GE.av b.edges)),(49,.int .i64 b.edges.length),(50,.int .i64 i)]∧s=⟨[o0,o1,.arr ga 10 fa true (vs GC.av D),.arr gs 1 true false [cl fb (.own 2 ga 0 n)],r1,r2,r3,r4,.arr c0 4 true true [a.av],.arr (c0+1) 4 true true [b.av]],c⟩) ?_ _ _ _ ⟨0,_,_,_,_,_,E,rfl,by omega,by simp,hn,by omega,by first|rfl|(rw [← lV (f:=GE.av) b.edges];rfl),rfl⟩
 clear hn
 rintro _ _ _ ⟨i,c,ga,n,fa,fb,D,rfl,hi,hD,hn,hDl,rfl,rfl⟩
 refine⟨rfl,?_⟩
 by_cases hlt:i<b.edges.length
 ·have hs:(b.edges.take (i+1)).flatMap (D8 a.edges)=(b.edges.take i).flatMap (D8 a.edges)++D8 a.edges b.edges[i]:=Rq hlt
  have hq:=AjI ha (id:=b.edges[i].id)
  unfold JE at hq
  have hb':=hb.edges _ (List.getElem_mem hlt)
  obtain⟨_,m2,_⟩:=id hb'
  have k2:=Yv (l:=b.edges[i].props) (nn:=b.edges[i].pn) (by omega)
  have q2:=Df b.edges[i].props
  cases hf:a.edges.find? (XI b.edges[i].id)with
  |none=>
   rw[hf]at hq
   have hwp:=Ajd hf
   have hw:IK ([]:List GP):=⟨by decide,fun p hp=>by cases hp⟩
   have hL:D8 a.edges b.edges[i]=AQ 8 b.edges[i].id (keysOf ([]:List GP)) (keysOf b.edges[i].props)++valuesL 8 b.edges[i].id ([]:List GP) b.edges[i].props:=by unfold D8;rw[hwp]
   have hlp:([]:List GP).length≤16:=by first|decide|exact hw16
   have k1:=Yv (l:=([]:List GP)) (nn:=false) (by omega)
   have q1:=Df ([]:List GP)
   have l1:=Ec (op:=8) (id:=b.edges[i].id) (l:=keysOf ([]:List GP)) (m:=keysOf b.edges[i].props)
   have l4:=Fq (op:=8) (id:=b.edges[i].id) (a:=([]:List GP)) (b:=b.edges[i].props)
   have hD2:((D++AQ 8 b.edges[i].id (keysOf ([]:List GP)) (keysOf b.edges[i].props))++valuesL 8 b.edges[i].id ([]:List GP) b.edges[i].props)=E++(b.edges.take (i+1)).flatMap (D8 a.edges):=by rw[hs,hL,hD];simp only[List.append_assoc]
   (conv=>whnf);repeat' (first|((first|refine Aa hq ?_|refine Aa k1 ?_|refine Aa k2 ?_);rintro _ rfl;conv=>whnf)|(refine kA ?_;conv=>whnf)|(refine Br.mk (fun hc=>?_) fun hc=>?_<;>first|exact hc.elim|conv=>whnf)|(refine kB ?_))
   all_goals try (exfalso;omega)
   refine(names8 (A:=D) (op:=8) (id:=b.edges[i].id) (l:=keysOf ([]:List GP)) (m:=keysOf b.edges[i].props) hn (by first|omega|(simp only[List.length_append];omega)) (by omega) (by omega)).mono ?_
   rintro _ _ ⟨c3,ga3,fa3,fb3,rfl,rfl⟩
   conv=>whnf
   try (apply Ae rfl;conv=>whnf)
   (conv=>whnf);repeat' (first|((first|refine Aa hq ?_|refine Aa k1 ?_|refine Aa k2 ?_);rintro _ rfl;conv=>whnf)|(refine kA ?_;conv=>whnf)|(refine Br.mk (fun hc=>?_) fun hc=>?_<;>first|exact hc.elim|conv=>whnf)|(refine kB ?_))
   all_goals try (exfalso;omega)
   refine(ZH (A:=(D++AQ 8 b.edges[i].id (keysOf ([]:List GP)) (keysOf b.edges[i].props))) (op:=8) (id:=b.edges[i].id) (a:=([]:List GP)) (b:=b.edges[i].props) rfl (by first|omega|(simp only[List.length_append];omega)) hw hb'.2.2.1).mono ?_
   rintro _ _ ⟨c4,ga4,fa4,fb4,rfl,rfl⟩
   conv=>whnf
   try (apply Ae rfl;conv=>whnf)
   (conv=>whnf);repeat' (first|((first|refine Aa hq ?_|refine Aa k1 ?_|refine Aa k2 ?_);rintro _ rfl;conv=>whnf)|(refine kA ?_;conv=>whnf)|(refine Br.mk (fun hc=>?_) fun hc=>?_<;>first|exact hc.elim|conv=>whnf)|(refine kB ?_))
   all_goals try (exfalso;omega)
   all_goals first|exact again.mk ⟨_,by omega,i+1,_,_,_,_,_,((D++AQ 8 b.edges[i].id (keysOf ([]:List GP)) (keysOf b.edges[i].props))++valuesL 8 b.edges[i].id ([]:List GP) b.edges[i].props),rfl,by omega,hD2,rfl,by simp only[List.length_append];omega,rfl,rfl⟩|(exfalso;omega)
  |some y=>
   rw[hf]at hq
   have hy:=ha.edges _ (List.mem_of_find?_eq_some hf)
   have hm:=ApQ (x:=y) (y:=b.edges[i])
   rw[XG]at hm
   cases hmv:Ci b.edges[i] y
   ·rw[hmv]at hm
    have hwp:=Aje hf hmv
    have hw16:=hy.2.1
    have hw:=hy.2.2.1
    have hL:D8 a.edges b.edges[i]=AQ 8 b.edges[i].id (keysOf y.props) (keysOf b.edges[i].props)++valuesL 8 b.edges[i].id y.props b.edges[i].props:=by unfold D8;rw[hwp]
    have hlp:y.props.length≤16:=by first|decide|exact hw16
    have k1:=Yv (l:=y.props) (nn:=y.pn) (by omega)
    have q1:=Df y.props
    have l1:=Ec (op:=8) (id:=b.edges[i].id) (l:=keysOf y.props) (m:=keysOf b.edges[i].props)
    have l4:=Fq (op:=8) (id:=b.edges[i].id) (a:=y.props) (b:=b.edges[i].props)
    have hD2:((D++AQ 8 b.edges[i].id (keysOf y.props) (keysOf b.edges[i].props))++valuesL 8 b.edges[i].id y.props b.edges[i].props)=E++(b.edges.take (i+1)).flatMap (D8 a.edges):=by rw[hs,hL,hD];simp only[List.append_assoc]
    (conv=>whnf);repeat' (first|((first|refine Aa hq ?_|refine Aa hm ?_|refine Aa k1 ?_|refine Aa k2 ?_);rintro _ rfl;conv=>whnf)|(refine kA ?_;conv=>whnf)|(refine Br.mk (fun hc=>?_) fun hc=>?_<;>first|exact hc.elim|conv=>whnf)|(refine kB ?_))
    all_goals try (exfalso;omega)
    refine(names8 (A:=D) (op:=8) (id:=b.edges[i].id) (l:=keysOf y.props) (m:=keysOf b.edges[i].props) hn (by first|omega|(simp only[List.length_append];omega)) (by omega) (by omega)).mono ?_
    rintro _ _ ⟨c3,ga3,fa3,fb3,rfl,rfl⟩
    conv=>whnf
    try (apply Ae rfl;conv=>whnf)
    (conv=>whnf);repeat' (first|((first|refine Aa hq ?_|refine Aa hm ?_|refine Aa k1 ?_|refine Aa k2 ?_);rintro _ rfl;conv=>whnf)|(refine kA ?_;conv=>whnf)|(refine Br.mk (fun hc=>?_) fun hc=>?_<;>first|exact hc.elim|conv=>whnf)|(refine kB ?_))
    all_goals try (exfalso;omega)
    refine(ZH (A:=(D++AQ 8 b.edges[i].id (keysOf y.props) (keysOf b.edges[i].props))) (op:=8) (id:=b.edges[i].id) (a:=y.props) (b:=b.edges[i].props) rfl (by first|omega|(simp only[List.length_append];omega)) hw hb'.2.2.1).mono ?_
    rintro _ _ ⟨c4,ga4,fa4,fb4,rfl,rfl⟩
    conv=>whnf
    try (apply Ae rfl;conv=>whnf)
    (conv=>whnf);repeat' (first|((first|refine Aa hq ?_|refine Aa hm ?_|refine Aa k1 ?_|refine Aa k2 ?_);rintro _ rfl;conv=>whnf)|(refine kA ?_;conv=>whnf)|(refine Br.mk (fun hc=>?_) fun hc=>?_<;>first|exact hc.elim|conv=>whnf)|(refine kB ?_))
    all_goals try (exfalso;omega)
    all_goals first|exact again.mk ⟨_,by omega,i+1,_,_,_,_,_,((D++AQ 8 b.edges[i].id (keysOf y.props) (keysOf b.edges[i].props))++valuesL 8 b.edges[i].id y.props b.edges[i].props),rfl,by omega,hD2,rfl,by simp only[List.length_append];omega,rfl,rfl⟩|(exfalso;omega)
   ·rw[hmv]at hm
    have hwp:=Ajf hf hmv
    have hw:IK ([]:List GP):=⟨by decide,fun p hp=>by cases hp⟩
    have hL:D8 a.edges b.edges[i]=AQ 8 b.edges[i].id (keysOf ([]:List GP)) (keysOf b.edges[i].props)++valuesL 8 b.edges[i].id ([]:List GP) b.edges[i].props:=by unfold D8;rw[hwp]
    have hlp:([]:List GP).length≤16:=by first|decide|exact hw16
    have k1:=Yv (l:=([]:List GP)) (nn:=false) (by omega)
    have q1:=Df ([]:List GP)
    have l1:=Ec (op:=8) (id:=b.edges[i].id) (l:=keysOf ([]:List GP)) (m:=keysOf b.edges[i].props)
    have l4:=Fq (op:=8) (id:=b.edges[i].id) (a:=([]:List GP)) (b:=b.edges[i].props)
    have hD2:((D++AQ 8 b.edges[i].id (keysOf ([]:List GP)) (keysOf b.edges[i].props))++valuesL 8 b.edges[i].id ([]:List GP) b.edges[i].props)=E++(b.edges.take (i+1)).flatMap (D8 a.edges):=by rw[hs,hL,hD];simp only[List.append_assoc]
    (conv=>whnf);repeat' (first|((first|refine Aa hq ?_|refine Aa hm ?_|refine Aa k1 ?_|refine Aa k2 ?_);rintro _ rfl;conv=>whnf)|(refine kA ?_;conv=>whnf)|(refine Br.mk (fun hc=>?_) fun hc=>?_<;>first|exact hc.elim|conv=>whnf)|(refine kB ?_))
    all_goals try (exfalso;omega)
    refine(names8 (A:=D) (op:=8) (id:=b.edges[i].id) (l:=keysOf ([]:List GP)) (m:=keysOf b.edges[i].props) hn (by first|omega|(simp only[List.length_append];omega)) (by omega) (by omega)).mono ?_
    rintro _ _ ⟨c3,ga3,fa3,fb3,rfl,rfl⟩
    conv=>whnf
    try (apply Ae rfl;conv=>whnf)
    (conv=>whnf);repeat' (first|((first|refine Aa hq ?_|refine Aa hm ?_|refine Aa k1 ?_|refine Aa k2 ?_);rintro _ rfl;conv=>whnf)|(refine kA ?_;conv=>whnf)|(refine Br.mk (fun hc=>?_) fun hc=>?_<;>first|exact hc.elim|conv=>whnf)|(refine kB ?_))
    all_goals try (exfalso;omega)
    refine(ZH (A:=(D++AQ 8 b.edges[i].id (keysOf ([]:List GP)) (keysOf b.edges[i].props))) (op:=8) (id:=b.edges[i].id) (a:=([]:List GP)) (b:=b.edges[i].props) rfl (by first|omega|(simp only[List.length_append];omega)) hw hb'.2.2.1).mono ?_
    rintro _ _ ⟨c4,ga4,fa4,fb4,rfl,rfl⟩
    conv=>whnf
    try (apply Ae rfl;conv=>whnf)
    (conv=>whnf);repeat' (first|((first|refine Aa hq ?_|refine Aa hm ?_|refine Aa k1 ?_|refine Aa k2 ?_);rintro _ rfl;conv=>whnf)|(refine kA ?_;conv=>whnf)|(refine Br.mk (fun hc=>?_) fun hc=>?_<;>first|exact hc.elim|conv=>whnf)|(refine kB ?_))
    all_goals try (exfalso;omega)
    all_goals first|exact again.mk ⟨_,by omega,i+1,_,_,_,_,_,((D++AQ 8 b.edges[i].id (keysOf ([]:List GP)) (keysOf b.edges[i].props))++valuesL 8 b.edges[i].id ([]:List GP) b.edges[i].props),rfl,by omega,hD2,rfl,by simp only[List.length_append];omega,rfl,rfl⟩|(exfalso;omega)
 ·rw[List.take_of_length_le (by omega),hDE,List.append_assoc]at hD
  have hG:D=A++Ro a b:=hD
  subst hn
  rw[← hG]
  (conv=>whnf);repeat' (first  |(refine kA ?_;conv=>whnf)|(refine Br.mk (fun hc=>?_) fun hc=>?_<;>first|exact hc.elim|conv=>whnf)|(refine kB ?_))
  all_goals first|exact⟨_,_,_,_,_,_,rfl,rfl,by omega⟩|(exfalso;omega)
noncomputable def ofL (a b:GG):List GC:=if AZ a=0 then(if AZ b=0 then DT a b else[])else[]
noncomputable def ofE (a b:GG):Int:=if AZ a=0 then AZ b else AZ a
def OfV (a b:GG) (v:AV):Prop:=∃nn,v=.BG [.sl nn (vs GC.av (ofL a b)),.int .i64 (ofE a b)]
theorem Ana {a b:GG} (h:AZ a≠0):OfV a b (.BG [.sl false [],.int .i64 (AZ a)]):=⟨false,by unfold ofL ofE;rw[if_neg h,if_neg h];rfl⟩
theorem Am9 {a b:GG} (h:AZ a=0) (h2:AZ b≠0):OfV a b (.BG [.sl false [],.int .i64 (AZ b)]):=⟨false,by unfold ofL ofE;rw[if_pos h,if_neg h2,if_pos h];rfl⟩
theorem Am8 {a b:GG} {nn:Bool} (h:AZ a=0) (h2:AZ b=0):OfV a b (.BG [.sl nn (vs GC.av (DT a b)),.int .i64 0]):=⟨nn,by unfold ofL ofE;rw[if_pos h,if_pos h2,if_pos h,h2]⟩
set_option maxHeartbeats 1000000 in
theorem ofP {a b:GG} (ha:a.ok) (hb:b.ok) (qa:AZ a=0→CX a) (qb:AZ b=0→CX b):Ag (Ac tab) 32 [a.av,b.av] (OfV a b):=by
 have hca:=VI ha
 have hcb:=VI hb
 by_cases h1:AZ a=0
 ·rw[h1]at hca
  have pa:=qa h1
  by_cases h2:AZ b=0
  ·rw[h2]at hcb
   have pb:=qb h2
   have g1:(H8 a b).length≤200:=by
     have x1:=pa.nn
     have x2:=pa.en
     have y1:=List.length_filter_le (BZ b.edges) a.edges
     have y2:=List.length_filter_le (Ej b.nodes) a.nodes
     unfold H8
     rw[List.length_append,List.length_map,List.length_map]
     omega
   refine Ad rfl rfl ?_
   (conv=>whnf);repeat' (first|((first|refine Aa hca ?_|refine Aa hcb ?_);rintro _ rfl;conv=>whnf)|(refine kA ?_;conv=>whnf)|(refine Br.mk (fun hc=>?_) fun hc=>?_<;>first|exact hc.elim|conv=>whnf)|(refine kB ?_))
   all_goals try (exfalso;omega)
   refine(Ata (A:=[]) (fb:=true) rfl (by decide) pa pb).mono ?_
   rintro _ _ ⟨c2,ga2,fa2,fb2,r1,r2,rfl,rfl⟩
   rw[List.nil_append]
   conv=>whnf
   try (apply Ae rfl;conv=>whnf)
   (conv=>whnf);repeat' (first  |(refine kA ?_;conv=>whnf)|(refine Br.mk (fun hc=>?_) fun hc=>?_<;>first|exact hc.elim|conv=>whnf)|(refine kB ?_))
   refine(ApD (A:=H8 a b) rfl (by omega) pa pb).mono ?_
   rintro _ _ ⟨c3,ga3,fa3,fb3,r3,r4,rfl,rfl,hl3⟩
   conv=>whnf
   try (apply Ae rfl;conv=>whnf)
   (conv=>whnf);repeat' (first  |(refine kA ?_;conv=>whnf)|(refine Br.mk (fun hc=>?_) fun hc=>?_<;>first|exact hc.elim|conv=>whnf)|(refine kB ?_))
   refine(ApM (A:=H8 a b++P7 a b) rfl hl3 pa pb).mono ?_
   rintro _ _ ⟨c4,ga4,fa4,fb4,r5,r6,rfl,rfl,hl4⟩
   have hS:H8 a b++P7 a b++Ro a b=DT a b:=List.append_assoc ..
   rw[hS]
   cases fb4
   all_goals
     conv=>whnf
     try (apply Ae rfl;conv=>whnf)
     (conv=>whnf);repeat' (first  |(refine kA ?_;conv=>whnf)|(refine Br.mk (fun hc=>?_) fun hc=>?_<;>first|exact hc.elim|conv=>whnf)|(refine kB ?_))
     all_goals first|exact Am8 h1 h2
  ·refine Ad rfl rfl ?_
   (conv=>whnf);repeat' (first|((first|refine Aa hca ?_|refine Aa hcb ?_);rintro _ rfl;conv=>whnf)|(refine kA ?_;conv=>whnf)|(refine Br.mk (fun hc=>?_) fun hc=>?_<;>first|exact hc.elim|conv=>whnf)|(refine kB ?_))
   all_goals first|exact Am9 h1 h2|(exfalso;omega)|exact absurd (by assumption) h2
 ·refine Ad rfl rfl ?_
  (conv=>whnf);repeat' (first|((first|refine Aa hca ?_|refine Aa hcb ?_);rintro _ rfl;conv=>whnf)|(refine kA ?_;conv=>whnf)|(refine Br.mk (fun hc=>?_) fun hc=>?_<;>first|exact hc.elim|conv=>whnf)|(refine kB ?_))
  all_goals first|exact Ana h1|(exfalso;omega)|exact absurd (by assumption) h1
set_option maxRecDepth 100000 in
theorem QK:Fb (run (Ac tab) 80) 9 []=some (.bool true):=by kernel_rfl
theorem IB:Ag (Ac tab) 9 [] (· =.bool (decide True)):=⟨.bool true,⟨80,QK⟩,rfl⟩
theorem AcC {a b:GG} (ha:a.ok) (hb:b.ok):Ag (Ac tab) 7 [a.av,b.av] (fun v=>∃t,v=.bool t∧(t=true→SmG a 24 30∧SmG b 24 30)):=by
 obtain⟨_,⟨t1,rfl,h1⟩,p1⟩:=(small ha (n:=24) (e:=30)).IJ
 obtain⟨_,⟨t2,rfl,h2⟩,p2⟩:=(small hb (n:=24) (e:=30)).IJ
 cases t1<;>cases t2
 all_goals
  refine Ad rfl rfl ?_
  (conv=>whnf);repeat' (first|((first|refine Aa p1 ?_|refine Aa p2 ?_);rintro _ rfl;conv=>whnf)|(refine kA ?_;conv=>whnf)|(refine Br.mk (fun hc=>?_) fun hc=>?_<;>first|exact hc.elim|conv=>whnf)|(refine kB ?_))
  all_goals first|exact⟨_,rfl,fun _=>⟨h1 rfl,h2 rfl⟩⟩|exact⟨_,rfl,fun h=>Bool.noConfusion h⟩
theorem of_run {a b:GG} (ha:a.ok) (hb:b.ok) (pa:CX a) (pb:CX b) (ea:AZ a=0) (eb:AZ b=0):∃nn,Ag (Ac tab) 32 [a.av,b.av] (· =.BG [.sl nn (vs GC.av (DT a b)),.int .i64 0]):=by
 obtain⟨_,⟨n1,rfl⟩,pP⟩:=(ofP ha hb (fun _=>pa) (fun _=>pb)).IJ
 have hoL:ofL a b=DT a b:=by unfold ofL;rw[if_pos ea,if_pos eb]
 have hoE:ofE a b=0:=by unfold ofE;rw[if_pos ea,eb]
 rw[hoL,hoE]at pP
 exact⟨n1,pP⟩
theorem Asq {AP:Nat→Option Jc} {f es:Nat} {args elems:List AV} {s:Aq} {K:AV→Aq→Prop} (hcl:D9 args=true) (h:Am AP f args ⟨[],0⟩ fun out s'=>∃o g nn,out=.ok (.own o g 0 elems.length)∧nth s'.σ o=some (.arr g es nn true elems))
 (hk:∀nn,K (.own s.σ.length s.ctr 0 elems.length) (push s (.arr s.ctr es nn true elems))):∃N r s',Bv (run AP N) .own f args s=some (.ok r,s')∧K r s':=by
 obtain⟨N,out,s1,h1,o,g,nn,rfl,h2⟩:=h
 exact⟨N,_,_,by simp[Bv,hcl,h1,h2],hk nn⟩
theorem Asr {n:Int} (h0:0≤n) (h1:n≤100000):Am (Ac tab) 92 [.sl false [],.int .i64 n] ⟨[],0⟩ fun out s'=>∃o g nn,out=.ok (.own o g 0 ([]:List AV).length)∧nth s'.σ o=some (.arr g 10 nn true []):=
 MG (s':=⟨[.arr 0 10 (decide (n≠0)) true []],1⟩) (out:=.ok (.own 0 0 0 0)) (sp:=Z8) rfl (by show O1 10 112 _ _=_;simp only[O1];rw[if_pos ⟨h0,by omega⟩];rfl) ⟨0,0,_,rfl,rfl⟩
set_option maxHeartbeats 4000000 in
theorem Ad1 {L M:List GC} {nl nm:Bool} (hL:L.length≤1000) (hM:M.length≤1000):Ag (Ac tab) 41 [.sl true [.sl nl (vs GC.av L),.sl nm (vs GC.av M)]] (fun v=>∃b,v=.sl b (vs GC.av (L++M))):=by
 refine Ad rfl rfl ?_
 (conv=>whnf);repeat' (first|(refine Ue ?_ rfl;conv=>whnf)|(refine Asq rfl (Asr (by omega) (by omega)) (fun nn=>?_);conv=>whnf)|(refine P6 (f:=GC.av) (l:=[]) (l':=L) rfl Dv rfl (by simp;omega) (fun b0=>?_);conv=>whnf)|(refine P6 (f:=GC.av) (l:=[]++L) (l':=M) rfl Dv (by simp) (by simp;omega) (fun b=>?_);conv=>whnf)|(refine kA ?_;conv=>whnf)|(refine Br.mk (fun hc=>?_) fun hc=>?_<;>first|exact hc.elim|conv=>whnf)|(refine kB ?_))
 all_goals first
  |(exfalso;omega)
  |exact⟨_,rfl⟩
  |(exfalso;simp only[List.length_cons,List.length_nil]at *;omega)
  |(refine ⟨b,?_⟩;rw[← List.length_append,uV];simp;done)
theorem AmI {g:GG} {L M:List GC} {nl nm n:Bool} {b:Bool} {X:List AV} {e:Int} (hC:Ag (Ac tab) 41 [.sl true [.sl nl (vs GC.av L),.sl nm (vs GC.av M)]] (· =.sl n (vs GC.av (L++M)))) (hN:Ag (Ac tab) 11 [g.av,.sl n (vs GC.av (L++M))] (· =.BG [.sl b X,.int .i64 e])):
 Ag (Ac tab) 16 [g.av,.sl nl (vs GC.av L),.sl nm (vs GC.av M)] (· =.BG [.sl b X,.int .i64 e]):=by
 refine Ad rfl rfl ?_
 (conv=>whnf);repeat' (first|((first|refine Aa hC ?_|refine Aa hN ?_);rintro _ rfl;conv=>whnf)|(refine kA ?_;conv=>whnf)|(refine Br.mk (fun hc=>?_) fun hc=>?_<;>first|exact hc.elim|conv=>whnf)|(refine kB ?_))
 all_goals first|rfl|(exfalso;omega)
theorem all_zero {L:List GC}:∀{g:GG} {i:Nat},(Jl g L i).2.2≠0→(Jl g L i).1=EP:=by
 induction L with
 |nil=>intro g i h;exact absurd rfl h
 |cons c L ih=>
  intro g i h
  rw[Jl]at h ⊢
  by_cases h0:(stepG g c).1=0
  ·rw[if_neg (fun k=>k h0)]at h ⊢
   exact ih h
  ·rw[if_pos h0]
theorem XW {g:GG} {L:List GC} (h:(AX g L).2.2≠0):(AX g L).1=EP:=by
 unfold AX at h ⊢
 by_cases h0:AZ g=0
 ·rw[if_neg (fun k=>k h0)]at h ⊢
  exact all_zero h
 ·rw[if_pos h0]
theorem UY {h h':GG} {M:List GC} (e:BL h'=BL h) (ch:AZ h=0) (z:(AX h' M).2.2=0):∃k,FT h M=some k∧BL k=BL (AX h' M).1:=by
 obtain⟨c',r'⟩:=Lc z
 have ha:AX h' M=Jl h' M 0:=by unfold AX;rw[if_neg (fun k=>k c')]
 rw[ha]at z ⊢
 obtain⟨s1,s2⟩:=Ahc (L:=M) (i:=0) e
 rw[s1]at z
 exact⟨_,Ahd z,s2.symm⟩
set_option maxRecDepth 10000 in
set_option maxHeartbeats 8000000 in
theorem Afl:∀xs,likes Tryz.prog [25,26,26] xs→Am (Ac tab) 5 xs ⟨[],0⟩ fun out _=>out=.ok (.bool true):=by
 intro xs h
 match xs,h with
 |[x,y,z],h=>
  obtain⟨h1,h2,h3,_⟩:=h
  obtain⟨g,rfl,hg⟩:=NC h1
  obtain⟨nn,L,rfl,hL,hok⟩:=Iz h2
  obtain⟨nm,M,rfl,hM,hmk⟩:=Iz h3
  obtain⟨_,⟨b1,rfl,q1⟩,p1⟩:=(AcC hg hg).IJ
  obtain⟨_,⟨b2,rfl,q2⟩,p2⟩:=(AgY (nn:=nn) hL hok).IJ
  obtain⟨_,⟨b3,rfl,q3⟩,p3⟩:=(AgY (nn:=nm) hM hmk).IJ
  refine Ah rfl rfl ?_
  cases b1
  case false=>
   (conv=>whnf);repeat' (first|(refine Aa p1 ?_;rintro _ rfl;conv=>whnf)|(refine Bo IB (fun _=>?_) (fun h=>absurd trivial h);conv=>whnf)|(refine kA ?_;conv=>whnf)|(refine Br.mk (fun hc=>?_) fun hc=>?_<;>first|exact hc.elim|conv=>whnf)|(refine kB ?_))
   all_goals first|rfl
  cases b2
  case false=>
   (conv=>whnf);repeat' (first|((first|refine Aa p1 ?_|refine Aa p2 ?_);rintro _ rfl;conv=>whnf)|(refine Bo IB (fun _=>?_) (fun h=>absurd trivial h);conv=>whnf)|(refine kA ?_;conv=>whnf)|(refine Br.mk (fun hc=>?_) fun hc=>?_<;>first|exact hc.elim|conv=>whnf)|(refine kB ?_))
   all_goals first|rfl
  cases b3
  case false=>
   (conv=>whnf);repeat' (first|((first|refine Aa p1 ?_|refine Aa p2 ?_|refine Aa p3 ?_);rintro _ rfl;conv=>whnf)|(refine Bo IB (fun _=>?_) (fun h=>absurd trivial h);conv=>whnf)|(refine kA ?_;conv=>whnf)|(refine Br.mk (fun hc=>?_) fun hc=>?_<;>first|exact hc.elim|conv=>whnf)|(refine kB ?_))
   all_goals first|rfl
  obtain⟨sg,_⟩:=q1 rfl
  obtain⟨l30,Abg⟩:=q2 rfl
  obtain⟨m30,Aoh⟩:=q3 rfl
  clear q1 q2 q3
  have gN:=sg.1
  have gE:=sg.2.1
  obtain⟨_,⟨h',rfl,hn',ho'⟩,pR⟩:=(LX (nn:=nn) hg (by omega) hok (by omega) (by omega)).IJ
  by_cases h0:(AX g L).2.2=0
  case neg=>
   have hz:h'.nodes.length≤0∧h'.edges.length≤0:=by
     rw[XW h0]at hn'
     have:=JM hn'
     simp only[EP,List.length_nil]at this
     omega
   obtain⟨_,⟨k',rfl,_,_⟩,pQ⟩:=(LX (nn:=nm) ho' (by omega) hmk (by omega) (by omega)).IJ
   generalize (AX h' M).2.2=e2 at pQ
   generalize (AX h' M).2.1=n2 at pQ
   generalize (AX g L).2.2=e at pR h0
   generalize (AX g L).2.1=n at pR
   (conv=>whnf);repeat' (first|((first|refine Aa p1 ?_|refine Aa p2 ?_|refine Aa p3 ?_|refine Aa pR ?_|refine Aa pQ ?_);rintro _ rfl;conv=>whnf)|(refine Bo IB (fun _=>?_) (fun h=>absurd trivial h);conv=>whnf)|(refine kA ?_;conv=>whnf)|(refine Br.mk (fun hc=>?_) fun hc=>?_<;>first|exact hc.elim|conv=>whnf)|(refine kB ?_))
   all_goals first|rfl|(exfalso;omega)
  obtain⟨cg,hrun⟩:=Lc h0
  have kg:=Zk cg
  rw[h0]at pR
  generalize (AX g L).1=h at hn' hrun
  generalize (AX g L).2.1=nR at pR
  have kh:=kg.run hrun
  have hh:=WQ hg kg hok hrun
  have lh:=Vo hrun
  have lh':=JM hn'
  obtain⟨_,⟨k',rfl,kn',ko'⟩,pQ⟩:=(LX (nn:=nm) ho' (by omega) hmk (by omega) (by omega)).IJ
  by_cases z0:(AX h' M).2.2=0
  case neg=>
   generalize (AX h' M).2.2=e2 at pQ z0
   generalize (AX h' M).2.1=n2 at pQ
   (conv=>whnf);repeat' (first|((first|refine Aa p1 ?_|refine Aa p2 ?_|refine Aa p3 ?_|refine Aa pR ?_|refine Aa pQ ?_);rintro _ rfl;conv=>whnf)|(refine Bo IB (fun _=>?_) (fun h=>absurd trivial h);conv=>whnf)|(refine kA ?_;conv=>whnf)|(refine Br.mk (fun hc=>?_) fun hc=>?_<;>first|exact hc.elim|conv=>whnf)|(refine kB ?_))
   all_goals first|rfl|(exfalso;omega)
  obtain⟨k,Ahe,knr⟩:=UY hn' (Tc kh) z0
  rw[z0]at pQ
  generalize (AX h' M).2.1=nQ at pQ
  have kn:BL k'=BL k:=kn'.trans knr.symm
  clear kn' knr z0
  generalize (AX h' M).1=kk1 at*
  have kk:=kh.run Ahe
  have hk:=WQ hh kh hmk Ahe
  have lk:=Vo Ahe
  have Aoi:=Hq hrun Ahe
  have hLM:∀c∈L++M,c.ok:=fun c hc=>(List.mem_append.1 hc).elim (hok c) (hmk c)
  have iLM:∀c∈L++M,GY 12 c.v.av:=fun c hc=>(List.mem_append.1 hc).elim (Abg c) (Aoh c)
  have vg0:=AcD (ZF hg sg)
  have vk:=vg0.run (fun c hc=>⟨(hLM c hc).2.2.2.2.2,iLM c hc⟩) Aoi
  have pg:=WC hg sg cg
  have pk:=RF hk kk vk (by omega) (by omega)
  obtain⟨_,⟨fC,rfl⟩,hC⟩:=(Ad1 (L:=L) (M:=M) (nl:=nn) (nm:=nm) (by omega) (by omega)).IJ
  have pA:=J5 (nn:=fC) hg (by rw[List.length_append];omega) hLM
  rw[IC cg Aoi]at pA
  obtain⟨n1,o1⟩:=of_run hg hk pg pk cg (Tc kk)
  have K1:=AmI hC (AdO pA o1)
  obtain⟨k2,hk2,Ahf,ksg⟩:=leads kg.vg kk.vg (by omega) (by omega)
  have ok1:=Yr hg hk
  have fin1:=Js (a:=g) pk
  have len1:=ND kg.vg kk.vg
  have vk2:=vg0.run fin1 hk2
  have pA2:=J5 (nn:=n1) hg len1 ok1
  rw[IC cg hk2]at pA2
  have aK:=Ahg (RG Ahf vk2) (Abh kn (RG kk.vg.ask vk))
  rw[decide_eq_true (AcE kn ksg)]at aK
  generalize DT g k=X at K1 pA2
  clear pA o1 ok1 fin1 len1 hk2 vk vk2 pk ksg Ahf hrun Ahe Aoi hC hLM iLM
  (conv=>whnf);repeat' (first|((first|refine Aa p1 ?_|refine Aa p2 ?_|refine Aa p3 ?_|refine Aa pR ?_|refine Aa pQ ?_|refine Aa K1 ?_|refine Aa pA2 ?_|refine Aa aK ?_);rintro _ rfl;conv=>whnf)|(refine Bo IB (fun _=>?_) (fun h=>absurd trivial h);conv=>whnf)|(refine kA ?_;conv=>whnf)|(refine Br.mk (fun hc=>?_) fun hc=>?_<;>first|exact hc.elim|conv=>whnf)|(refine kB ?_))
  all_goals first|rfl|(exfalso;omega)
end AI
end Go.Proofs.YthnehejdkajjhaaGreatDoor
