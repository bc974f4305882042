/- Edges: the program's walk. The script between two graphs: the program. The worked example in the laws about scripts: reckoned by the kernel. The worked example, small graphs, the same changes. The law DeltaSettles, about the evaluator. -/
import Derived.Test.YthnehejdkajjhaaGreatDoorYMar
import Derived.Test.YthnehejdkajjhaaGreatDoorYMan
import Derived.Test.YthnehejdkajjhaaGreatDoorYGrCode
import Derived.Test.YthnehejdkajjhaaGreatDoorYMao
import Derived.Test.YthnehejdkajjhaaGreatDoorYMah
import Derived.Test.YthnehejdkajjhaaGreatDoorYDsP
import Derived.Test.YthnehejdkajjhaaGreatDoorYDsN
import Derived.Test.YthnehejdkajjhaaGreatDoorYRcM
set_option linter.unusedVariables false
set_option maxRecDepth 4000
namespace Go.Proofs.YthnehejdkajjhaaGreatDoor
namespace AI
theorem Ajd {E:List GE} {x:GE} (h:E.find? (XI x.id)=none):KO E x=[]:=by unfold KO;rw[h]
theorem Ajf {E:List GE} {x y:GE} (h:E.find? (XI x.id)=some y) (hm:Ci x y=true):KO E x=[]:=by unfold KO;rw[h];exact if_pos hm
theorem Aje {E:List GE} {x y:GE} (h:E.find? (XI x.id)=some y) (hm:Ci x y=false):KO E x=y.props:=by unfold KO;rw[h];exact if_neg (by rw[hm];exact Bool.false_ne_true)
set_option maxHeartbeats 2000000 in
theorem ApM {o0 o1 r1 r2 r3 r4:Obj} {ga gs c0 n:Nat} {fa fb:Bool} {A:List GC} {a b:GG} (hn:n=A.length) (hA:A.length≤7000) (ha:CX a) (hb:CX b):
 Am (Ac tab) 67 [.ref 3 gs 0 0,a.av,b.av] ⟨[o0,o1,.arr ga 10 fa true (vs GC.av A),.arr gs 1 true false [cl fb (.own 2 ga 0 n)],r1,r2,r3,r4],c0⟩ (fun out s'=>∃(c' ga':Nat) (WS WT:Bool) (r5 r6:Obj),out=.ok (.BG [])∧s'=⟨[o0,o1,.arr ga' 10 WS true (vs GC.av (A++Ro a b)),.arr gs 1 true false [cl WT (.own 2 ga' 0 (A++Ro a b).length)],r1,r2,r3,r4,r5,r6],c'⟩∧(A++Ro a b).length≤14000):=by
 have a1:=ha.nn
 have a2:=ha.en
 have b1:=hb.nn
 have b2:=hb.en
 refine Ah rfl rfl ?_
 (conv=>whnf);repeat' (first  |(refine kA ?_;conv=>whnf)|(refine Br.mk (fun hc=>?_) fun hc=>?_<;>first|exact hc.elim|conv=>whnf)|(refine kB ?_))
 refine Af (fun z env s=>∃(i c ga n:Nat) (fa fb:Bool) (D:List GC),z=b.edges.length-i∧i≤b.edges.length∧D=A++((b.edges.take i).filter (BZ a.edges)).map newE∧n=D.length∧D.length≤A.length+i∧env=[(0,.ref 3 gs 0 0),(4,.ref 8 c0 0 0),(5,.ref 9 (c0+1) 0 0),(15,.sl b.en (vs GE.av b.edges)),(16,.int .i64 b.edges.length),(17,.int .i64 i)]∧s=⟨[o0,o1,.arr ga 10 fa true (vs GC.av D),.arr gs 1 true false [cl fb (.own 2 ga 0 n)],r1,r2,r3,r4,.arr c0 4 true true [a.av],.arr (c0+1) 4 true true [b.av]],c⟩) ?_ _ _ _ ⟨0,_,_,_,_,_,A,rfl,by omega,by simp,hn,by omega,by first|rfl|(rw [← lV (f:=GE.av) b.edges];rfl),rfl⟩
 clear hn
 rintro _ _ _ ⟨i,c,ga,n,fa,fb,D,rfl,hi,hD,hn,hDl,rfl,rfl⟩
 refine⟨rfl,?_⟩
 by_cases hlt:i<b.edges.length
 ·have hs:((b.edges.take (i+1)).filter (BZ a.edges)).map newE=((b.edges.take i).filter (BZ a.edges)).map newE++if BZ a.edges b.edges[i]=true then[newE b.edges[i]]else[]:=DK hlt
  have hq:=AjI ha (id:=b.edges[i].id)
  unfold JE at hq
  cases hf:a.edges.find? (XI b.edges[i].id)with
  |none=>
   rw[hf]at hq
   have hg:BZ a.edges b.edges[i]=true:=by unfold BZ;rw[hf]
   ·rw[if_pos hg]at hs
    have hD2:D++[newE b.edges[i]]=A++((b.edges.take (i+1)).filter (BZ a.edges)).map newE:=by rw[hs,hD,List.append_assoc]
    (conv=>whnf);repeat' (first|(refine Aa hq ?_;rintro _ rfl;conv=>whnf)|(refine kA ?_;conv=>whnf)|(refine Br.mk (fun hc=>?_) fun hc=>?_<;>first|exact hc.elim|conv=>whnf)|(refine kB ?_))
    all_goals try (exfalso;omega)
    refine(add8 (A:=D) (x:=newE b.edges[i]) hn (by omega)).mono ?_
    rintro _ _ ⟨c2,ga2,fa2,fb2,rfl,rfl⟩
    conv=>whnf
    try (apply Ae rfl;conv=>whnf)
    (conv=>whnf);repeat' (first  |(refine kA ?_;conv=>whnf)|(refine Br.mk (fun hc=>?_) fun hc=>?_<;>first|exact hc.elim|conv=>whnf)|(refine kB ?_))
    all_goals first|exact again.mk ⟨_,by omega,i+1,_,_,_,_,_,D++[newE b.edges[i]],rfl,by omega,hD2,hn,by omega,rfl,rfl⟩|exact again.mk ⟨_,by omega,i+1,_,_,_,_,_,D++[newE b.edges[i]],rfl,by omega,hD2,rfl,by simp;omega,rfl,rfl⟩|(exfalso;omega)
  |some y=>
   rw[hf]at hq
   have hg:BZ a.edges b.edges[i]=Ci b.edges[i] y:=by unfold BZ;rw[hf]
   have hm:=ApQ (x:=y) (y:=b.edges[i])
   rw[XG]at hm
   cases hmv:Ci b.edges[i] y
   ·rw[hmv]at hg hm
    ·rw[if_neg (by rw[hg];exact Bool.false_ne_true),List.append_nil]at hs
     rw[← hs]at hD
     (conv=>whnf);repeat' (first|((first|refine Aa hq ?_|refine Aa hm ?_);rintro _ rfl;conv=>whnf)|(refine kA ?_;conv=>whnf)|(refine Br.mk (fun hc=>?_) fun hc=>?_<;>first|exact hc.elim|conv=>whnf)|(refine kB ?_))
     all_goals first|exact again.mk ⟨_,by omega,i+1,_,_,_,_,_,D,rfl,by omega,hD,hn,by omega,rfl,rfl⟩|exact again.mk ⟨_,by omega,i+1,_,_,_,_,_,D,rfl,by omega,hD,rfl,by simp;omega,rfl,rfl⟩|(exfalso;omega)
   ·rw[hmv]at hg hm
    ·rw[if_pos hg]at hs
     have hD2:D++[newE b.edges[i]]=A++((b.edges.take (i+1)).filter (BZ a.edges)).map newE:=by rw[hs,hD,List.append_assoc]
     (conv=>whnf);repeat' (first|((first|refine Aa hq ?_|refine Aa hm ?_);rintro _ rfl;conv=>whnf)|(refine kA ?_;conv=>whnf)|(refine Br.mk (fun hc=>?_) fun hc=>?_<;>first|exact hc.elim|conv=>whnf)|(refine kB ?_))
     all_goals try (exfalso;omega)
     refine(add8 (A:=D) (x:=newE b.edges[i]) hn (by omega)).mono ?_
     rintro _ _ ⟨c2,ga2,fa2,fb2,rfl,rfl⟩
     conv=>whnf
     try (apply Ae rfl;conv=>whnf)
     (conv=>whnf);repeat' (first  |(refine kA ?_;conv=>whnf)|(refine Br.mk (fun hc=>?_) fun hc=>?_<;>first|exact hc.elim|conv=>whnf)|(refine kB ?_))
     all_goals first|exact again.mk ⟨_,by omega,i+1,_,_,_,_,_,D++[newE b.edges[i]],rfl,by omega,hD2,hn,by omega,rfl,rfl⟩|exact again.mk ⟨_,by omega,i+1,_,_,_,_,_,D++[newE b.edges[i]],rfl,by omega,hD2,rfl,by simp;omega,rfl,rfl⟩|(exfalso;omega)
 rw[List.take_of_length_le (by omega)]at hD
 have hD1:D.length≤7100:=by omega
 clear hDl
 obtain⟨E,hE⟩:∃E,E=D:=⟨_,rfl⟩
 subst hE
 have hDE:=hD
 clear hD
 (conv=>whnf);repeat' (first  |(refine kA ?_;conv=>whnf)|(refine Br.mk (fun hc=>?_) fun hc=>?_<;>first|exact hc.elim|conv=>whnf)|(refine kB ?_))
 all_goals first|(exfalso;omega)|skip
 refine Af (fun z env s=>∃(i c ga n:Nat) (fa fb:Bool) (D:List GC),z=b.edges.length-i∧i≤b.edges.length∧D=E++(b.edges.take i).flatMap (D8 a.edges)∧n=D.length∧D.length≤E.length+60*i∧env=[(0,.ref 3 gs 0 0),(4,.ref 8 c0 0 0),(48,.sl b.en (vs GE.av b.edges)),(49,.int .i64 b.edges.length),(50,.int .i64 i)]∧s=⟨[o0,o1,.arr ga 10 fa true (vs GC.av D),.arr gs 1 true false [cl fb (.own 2 ga 0 n)],r1,r2,r3,r4,.arr c0 4 true true [a.av],.arr (c0+1) 4 true true [b.av]],c⟩) ?_ _ _ _ ⟨0,_,_,_,_,_,E,rfl,by omega,by simp,hn,by omega,by first|rfl|(rw [← lV (f:=GE.av) b.edges];rfl),rfl⟩
 clear hn
 rintro _ _ _ ⟨i,c,ga,n,fa,fb,D,rfl,hi,hD,hn,hDl,rfl,rfl⟩
 refine⟨rfl,?_⟩
 by_cases hlt:i<b.edges.length
 ·have hs:(b.edges.take (i+1)).flatMap (D8 a.edges)=(b.edges.take i).flatMap (D8 a.edges)++D8 a.edges b.edges[i]:=Rq hlt
  have hq:=AjI ha (id:=b.edges[i].id)
  unfold JE at hq
  have hb':=hb.edges _ (List.getElem_mem hlt)
  obtain⟨_,m2,_⟩:=id hb'
  have k2:=Yv (l:=b.edges[i].props) (nn:=b.edges[i].pn) (by omega)
  have q2:=Df b.edges[i].props
  cases hf:a.edges.find? (XI b.edges[i].id)with
  |none=>
   rw[hf]at hq
   have hwp:=Ajd hf
   have hw:IK ([]:List GP):=⟨by decide,fun p hp=>by cases hp⟩
   have hL:D8 a.edges b.edges[i]=AQ 8 b.edges[i].id (keysOf ([]:List GP)) (keysOf b.edges[i].props)++valuesL 8 b.edges[i].id ([]:List GP) b.edges[i].props:=by unfold D8;rw[hwp]
   have hlp:([]:List GP).length≤16:=by first|decide|exact hw16
   have k1:=Yv (l:=([]:List GP)) (nn:=false) (by omega)
   have q1:=Df ([]:List GP)
   have l1:=Ec (op:=8) (id:=b.edges[i].id) (l:=keysOf ([]:List GP)) (m:=keysOf b.edges[i].props)
   have l4:=Fq (op:=8) (id:=b.edges[i].id) (a:=([]:List GP)) (b:=b.edges[i].props)
   have hD2:((D++AQ 8 b.edges[i].id (keysOf ([]:List GP)) (keysOf b.edges[i].props))++valuesL 8 b.edges[i].id ([]:List GP) b.edges[i].props)=E++(b.edges.take (i+1)).flatMap (D8 a.edges):=by rw[hs,hL,hD];simp only[List.append_assoc]
   (conv=>whnf);repeat' (first|((first|refine Aa hq ?_|refine Aa k1 ?_|refine Aa k2 ?_);rintro _ rfl;conv=>whnf)|(refine kA ?_;conv=>whnf)|(refine Br.mk (fun hc=>?_) fun hc=>?_<;>first|exact hc.elim|conv=>whnf)|(refine kB ?_))
   all_goals try (exfalso;omega)
   refine(names8 (A:=D) (op:=8) (id:=b.edges[i].id) (l:=keysOf ([]:List GP)) (m:=keysOf b.edges[i].props) hn (by first|omega|(simp only[List.length_append];omega)) (by omega) (by omega)).mono ?_
   rintro _ _ ⟨c3,ga3,fa3,fb3,rfl,rfl⟩
   conv=>whnf
   try (apply Ae rfl;conv=>whnf)
   (conv=>whnf);repeat' (first|((first|refine Aa hq ?_|refine Aa k1 ?_|refine Aa k2 ?_);rintro _ rfl;conv=>whnf)|(refine kA ?_;conv=>whnf)|(refine Br.mk (fun hc=>?_) fun hc=>?_<;>first|exact hc.elim|conv=>whnf)|(refine kB ?_))
   all_goals try (exfalso;omega)
   refine(ZH (A:=(D++AQ 8 b.edges[i].id (keysOf ([]:List GP)) (keysOf b.edges[i].props))) (op:=8) (id:=b.edges[i].id) (a:=([]:List GP)) (b:=b.edges[i].props) rfl (by first|omega|(simp only[List.length_append];omega)) hw hb'.2.2.1).mono ?_
   rintro _ _ ⟨c4,ga4,fa4,fb4,rfl,rfl⟩
   conv=>whnf
   try (apply Ae rfl;conv=>whnf)
   (conv=>whnf);repeat' (first|((first|refine Aa hq ?_|refine Aa k1 ?_|refine Aa k2 ?_);rintro _ rfl;conv=>whnf)|(refine kA ?_;conv=>whnf)|(refine Br.mk (fun hc=>?_) fun hc=>?_<;>first|exact hc.elim|conv=>whnf)|(refine kB ?_))
   all_goals try (exfalso;omega)
   all_goals first|exact again.mk ⟨_,by omega,i+1,_,_,_,_,_,((D++AQ 8 b.edges[i].id (keysOf ([]:List GP)) (keysOf b.edges[i].props))++valuesL 8 b.edges[i].id ([]:List GP) b.edges[i].props),rfl,by omega,hD2,rfl,by simp only[List.length_append];omega,rfl,rfl⟩|(exfalso;omega)
  |some y=>
   rw[hf]at hq
   have hy:=ha.edges _ (List.mem_of_find?_eq_some hf)
   have hm:=ApQ (x:=y) (y:=b.edges[i])
   rw[XG]at hm
   cases hmv:Ci b.edges[i] y
   ·rw[hmv]at hm
    have hwp:=Aje hf hmv
    have hw16:=hy.2.1
    have hw:=hy.2.2.1
    have hL:D8 a.edges b.edges[i]=AQ 8 b.edges[i].id (keysOf y.props) (keysOf b.edges[i].props)++valuesL 8 b.edges[i].id y.props b.edges[i].props:=by unfold D8;rw[hwp]
    have hlp:y.props.length≤16:=by first|decide|exact hw16
    have k1:=Yv (l:=y.props) (nn:=y.pn) (by omega)
    have q1:=Df y.props
    have l1:=Ec (op:=8) (id:=b.edges[i].id) (l:=keysOf y.props) (m:=keysOf b.edges[i].props)
    have l4:=Fq (op:=8) (id:=b.edges[i].id) (a:=y.props) (b:=b.edges[i].props)
    have hD2:((D++AQ 8 b.edges[i].id (keysOf y.props) (keysOf b.edges[i].props))++valuesL 8 b.edges[i].id y.props b.edges[i].props)=E++(b.edges.take (i+1)).flatMap (D8 a.edges):=by rw[hs,hL,hD];simp only[List.append_assoc]
    (conv=>whnf);repeat' (first|((first|refine Aa hq ?_|refine Aa hm ?_|refine Aa k1 ?_|refine Aa k2 ?_);rintro _ rfl;conv=>whnf)|(refine kA ?_;conv=>whnf)|(refine Br.mk (fun hc=>?_) fun hc=>?_<;>first|exact hc.elim|conv=>whnf)|(refine kB ?_))
    all_goals try (exfalso;omega)
    refine(names8 (A:=D) (op:=8) (id:=b.edges[i].id) (l:=keysOf y.props) (m:=keysOf b.edges[i].props) hn (by first|omega|(simp only[List.length_append];omega)) (by omega) (by omega)).mono ?_
    rintro _ _ ⟨c3,ga3,fa3,fb3,rfl,rfl⟩
    conv=>whnf
    try (apply Ae rfl;conv=>whnf)
    (conv=>whnf);repeat' (first|((first|refine Aa hq ?_|refine Aa hm ?_|refine Aa k1 ?_|refine Aa k2 ?_);rintro _ rfl;conv=>whnf)|(refine kA ?_;conv=>whnf)|(refine Br.mk (fun hc=>?_) fun hc=>?_<;>first|exact hc.elim|conv=>whnf)|(refine kB ?_))
    all_goals try (exfalso;omega)
    refine(ZH (A:=(D++AQ 8 b.edges[i].id (keysOf y.props) (keysOf b.edges[i].props))) (op:=8) (id:=b.edges[i].id) (a:=y.props) (b:=b.edges[i].props) rfl (by first|omega|(simp only[List.length_append];omega)) hw hb'.2.2.1).mono ?_
    rintro _ _ ⟨c4,ga4,fa4,fb4,rfl,rfl⟩
    conv=>whnf
    try (apply Ae rfl;conv=>whnf)
    (conv=>whnf);repeat' (first|((first|refine Aa hq ?_|refine Aa hm ?_|refine Aa k1 ?_|refine Aa k2 ?_);rintro _ rfl;conv=>whnf)|(refine kA ?_;conv=>whnf)|(refine Br.mk (fun hc=>?_) fun hc=>?_<;>first|exact hc.elim|conv=>whnf)|(refine kB ?_))
    all_goals try (exfalso;omega)
    all_goals first|exact again.mk ⟨_,by omega,i+1,_,_,_,_,_,((D++AQ 8 b.edges[i].id (keysOf y.props) (keysOf b.edges[i].props))++valuesL 8 b.edges[i].id y.props b.edges[i].props),rfl,by omega,hD2,rfl,by simp only[List.length_append];omega,rfl,rfl⟩|(exfalso;omega)
   ·rw[hmv]at hm
    have hwp:=Ajf hf hmv
    have hw:IK ([]:List GP):=⟨by decide,fun p hp=>by cases hp⟩
    have hL:D8 a.edges b.edges[i]=AQ 8 b.edges[i].id (keysOf ([]:List GP)) (keysOf b.edges[i].props)++valuesL 8 b.edges[i].id ([]:List GP) b.edges[i].props:=by unfold D8;rw[hwp]
    have hlp:([]:List GP).length≤16:=by first|decide|exact hw16
    have k1:=Yv (l:=([]:List GP)) (nn:=false) (by omega)
    have q1:=Df ([]:List GP)
    have l1:=Ec (op:=8) (id:=b.edges[i].id) (l:=keysOf ([]:List GP)) (m:=keysOf b.edges[i].props)
    have l4:=Fq (op:=8) (id:=b.edges[i].id) (a:=([]:List GP)) (b:=b.edges[i].props)
    have hD2:((D++AQ 8 b.edges[i].id (keysOf ([]:List GP)) (keysOf b.edges[i].props))++valuesL 8 b.edges[i].id ([]:List GP) b.edges[i].props)=E++(b.edges.take (i+1)).flatMap (D8 a.edges):=by rw[hs,hL,hD];simp only[List.append_assoc]
    (conv=>whnf);repeat' (first|((first|refine Aa hq ?_|refine Aa hm ?_|refine Aa k1 ?_|refine Aa k2 ?_);rintro _ rfl;conv=>whnf)|(refine kA ?_;conv=>whnf)|(refine Br.mk (fun hc=>?_) fun hc=>?_<;>first|exact hc.elim|conv=>whnf)|(refine kB ?_))
    all_goals try (exfalso;omega)
    refine(names8 (A:=D) (op:=8) (id:=b.edges[i].id) (l:=keysOf ([]:List GP)) (m:=keysOf b.edges[i].props) hn (by first|omega|(simp only[List.length_append];omega)) (by omega) (by omega)).mono ?_
    rintro _ _ ⟨c3,ga3,fa3,fb3,rfl,rfl⟩
    conv=>whnf
    try (apply Ae rfl;conv=>whnf)
    (conv=>whnf);repeat' (first|((first|refine Aa hq ?_|refine Aa hm ?_|refine Aa k1 ?_|refine Aa k2 ?_);rintro _ rfl;conv=>whnf)|(refine kA ?_;conv=>whnf)|(refine Br.mk (fun hc=>?_) fun hc=>?_<;>first|exact hc.elim|conv=>whnf)|(refine kB ?_))
    all_goals try (exfalso;omega)
    refine(ZH (A:=(D++AQ 8 b.edges[i].id (keysOf ([]:List GP)) (keysOf b.edges[i].props))) (op:=8) (id:=b.edges[i].id) (a:=([]:List GP)) (b:=b.edges[i].props) rfl (by first|omega|(simp only[List.length_append];omega)) hw hb'.2.2.1).mono ?_
    rintro _ _ ⟨c4,ga4,fa4,fb4,rfl,rfl⟩
    conv=>whnf
    try (apply Ae rfl;conv=>whnf)
    (conv=>whnf);repeat' (first|((first|refine Aa hq ?_|refine Aa hm ?_|refine Aa k1 ?_|refine Aa k2 ?_);rintro _ rfl;conv=>whnf)|(refine kA ?_;conv=>whnf)|(refine Br.mk (fun hc=>?_) fun hc=>?_<;>first|exact hc.elim|conv=>whnf)|(refine kB ?_))
    all_goals try (exfalso;omega)
    all_goals first|exact again.mk ⟨_,by omega,i+1,_,_,_,_,_,((D++AQ 8 b.edges[i].id (keysOf ([]:List GP)) (keysOf b.edges[i].props))++valuesL 8 b.edges[i].id ([]:List GP) b.edges[i].props),rfl,by omega,hD2,rfl,by simp only[List.length_append];omega,rfl,rfl⟩|(exfalso;omega)
 ·rw[List.take_of_length_le (by omega),hDE,List.append_assoc]at hD
  have hG:D=A++Ro a b:=hD
  subst hn
  rw[← hG]
  (conv=>whnf);repeat' (first  |(refine kA ?_;conv=>whnf)|(refine Br.mk (fun hc=>?_) fun hc=>?_<;>first|exact hc.elim|conv=>whnf)|(refine kB ?_))
  all_goals first|exact⟨_,_,_,_,_,_,rfl,rfl,by omega⟩|(exfalso;omega)
noncomputable def ofL (a b:GG):List GC:=if AZ a=0 then(if AZ b=0 then DT a b else[])else[]
noncomputable def ofE (a b:GG):Int:=if AZ a=0 then AZ b else AZ a
def OfV (a b:GG) (v:AV):Prop:=∃nn,v=.BG [.sl nn (vs GC.av (ofL a b)),.int .i64 (ofE a b)]
theorem Ana {a b:GG} (h:AZ a≠0):OfV a b (.BG [.sl false [],.int .i64 (AZ a)]):=⟨false,by unfold ofL ofE;rw[if_neg h,if_neg h];rfl⟩
theorem Am9 {a b:GG} (h:AZ a=0) (h2:AZ b≠0):OfV a b (.BG [.sl false [],.int .i64 (AZ b)]):=⟨false,by unfold ofL ofE;rw[if_pos h,if_neg h2,if_pos h];rfl⟩
theorem Am8 {a b:GG} {nn:Bool} (h:AZ a=0) (h2:AZ b=0):OfV a b (.BG [.sl nn (vs GC.av (DT a b)),.int .i64 0]):=⟨nn,by unfold ofL ofE;rw[if_pos h,if_pos h2,if_pos h,h2]⟩
set_option maxHeartbeats 1000000 in
theorem ofP {a b:GG} (ha:a.ok) (hb:b.ok) (qa:AZ a=0→CX a) (qb:AZ b=0→CX b):Ag (Ac tab) 32 [a.av,b.av] (OfV a b):=by
 have hca:=VI ha
 have hcb:=VI hb
 by_cases h1:AZ a=0
 ·rw[h1]at hca
  have pa:=qa h1
  by_cases h2:AZ b=0
  ·rw[h2]at hcb
   have pb:=qb h2
   have g1:(H8 a b).length≤200:=by
     have x1:=pa.nn
     have x2:=pa.en
     have y1:=List.length_filter_le (BZ b.edges) a.edges
     have y2:=List.length_filter_le (Ej b.nodes) a.nodes
     unfold H8
     rw[List.length_append,List.length_map,List.length_map]
     omega
   refine Ad rfl rfl ?_
   (conv=>whnf);repeat' (first|((first|refine Aa hca ?_|refine Aa hcb ?_);rintro _ rfl;conv=>whnf)|(refine kA ?_;conv=>whnf)|(refine Br.mk (fun hc=>?_) fun hc=>?_<;>first|exact hc.elim|conv=>whnf)|(refine kB ?_))
   all_goals try (exfalso;omega)
   refine(Ata (A:=[]) (fb:=true) rfl (by decide) pa pb).mono ?_
   rintro _ _ ⟨c2,ga2,fa2,fb2,r1,r2,rfl,rfl⟩
   rw[List.nil_append]
   conv=>whnf
   try (apply Ae rfl;conv=>whnf)
   (conv=>whnf);repeat' (first  |(refine kA ?_;conv=>whnf)|(refine Br.mk (fun hc=>?_) fun hc=>?_<;>first|exact hc.elim|conv=>whnf)|(refine kB ?_))
   refine(ApD (A:=H8 a b) rfl (by omega) pa pb).mono ?_
   rintro _ _ ⟨c3,ga3,fa3,fb3,r3,r4,rfl,rfl,hl3⟩
   conv=>whnf
   try (apply Ae rfl;conv=>whnf)
   (conv=>whnf);repeat' (first  |(refine kA ?_;conv=>whnf)|(refine Br.mk (fun hc=>?_) fun hc=>?_<;>first|exact hc.elim|conv=>whnf)|(refine kB ?_))
   refine(ApM (A:=H8 a b++P7 a b) rfl hl3 pa pb).mono ?_
   rintro _ _ ⟨c4,ga4,fa4,fb4,r5,r6,rfl,rfl,hl4⟩
   have hS:H8 a b++P7 a b++Ro a b=DT a b:=List.append_assoc ..
   rw[hS]
   cases fb4
   all_goals
     conv=>whnf
     try (apply Ae rfl;conv=>whnf)
     (conv=>whnf);repeat' (first  |(refine kA ?_;conv=>whnf)|(refine Br.mk (fun hc=>?_) fun hc=>?_<;>first|exact hc.elim|conv=>whnf)|(refine kB ?_))
     all_goals first|exact Am8 h1 h2
  ·refine Ad rfl rfl ?_
   (conv=>whnf);repeat' (first|((first|refine Aa hca ?_|refine Aa hcb ?_);rintro _ rfl;conv=>whnf)|(refine kA ?_;conv=>whnf)|(refine Br.mk (fun hc=>?_) fun hc=>?_<;>first|exact hc.elim|conv=>whnf)|(refine kB ?_))
   all_goals first|exact Am9 h1 h2|(exfalso;omega)|exact absurd (by assumption) h2
 ·refine Ad rfl rfl ?_
  (conv=>whnf);repeat' (first|((first|refine Aa hca ?_|refine Aa hcb ?_);rintro _ rfl;conv=>whnf)|(refine kA ?_;conv=>whnf)|(refine Br.mk (fun hc=>?_) fun hc=>?_<;>first|exact hc.elim|conv=>whnf)|(refine kB ?_))
  all_goals first|exact Ana h1|(exfalso;omega)|exact absurd (by assumption) h1
set_option maxRecDepth 100000 in
theorem QK:Fb (run (Ac tab) 80) 9 []=some (.bool true):=by kernel_rfl
theorem IB:Ag (Ac tab) 9 [] (· =.bool (decide True)):=⟨.bool true,⟨80,QK⟩,rfl⟩
theorem AcC {a b:GG} (ha:a.ok) (hb:b.ok):Ag (Ac tab) 7 [a.av,b.av] (fun v=>∃t,v=.bool t∧(t=true→SmG a 24 30∧SmG b 24 30)):=by
 obtain⟨_,⟨t1,rfl,h1⟩,p1⟩:=(small ha (n:=24) (e:=30)).IJ
 obtain⟨_,⟨t2,rfl,h2⟩,p2⟩:=(small hb (n:=24) (e:=30)).IJ
 cases t1<;>cases t2
 all_goals
  refine Ad rfl rfl ?_
  (conv=>whnf);repeat' (first|((first|refine Aa p1 ?_|refine Aa p2 ?_);rintro _ rfl;conv=>whnf)|(refine kA ?_;conv=>whnf)|(refine Br.mk (fun hc=>?_) fun hc=>?_<;>first|exact hc.elim|conv=>whnf)|(refine kB ?_))
  all_goals first|exact⟨_,rfl,fun _=>⟨h1 rfl,h2 rfl⟩⟩|exact⟨_,rfl,fun h=>Bool.noConfusion h⟩
theorem AkI {c d:GC} (s:Abj c d) (hc:Ld c.v) (hd:Ld d.v):Ag (Ac tab) 39 [c.av,d.av] (· =.bool true):=by
 have ho:=Arf hc hd
 obtain⟨a1,a2,a3,a4,a5,a6⟩:=c
 obtain⟨b1,b2,b3,b4,b5,b6⟩:=d
 obtain⟨e1,e2,e3,e4,e5,e6⟩:=s
 dsimp only at e1 e2 e3 e4 e5 e6 ho
 subst e1 e2 e3 e4 e5
 rw[e6]at ho
 refine Ad rfl rfl ?_
 (conv=>whnf);repeat' (first|(refine Aa ho ?_;rintro _ rfl;conv=>whnf)|(refine kA ?_;conv=>whnf)|(refine Br.mk (fun hc=>?_) fun hc=>?_<;>first|exact hc.elim|conv=>whnf)|(refine kB ?_))
 all_goals first|rfl|exact absurd rfl (by assumption)|(exfalso;omega)
theorem Abk {A B:List GC} {n1 n2:Bool} (hl:A.length<2^62) (s:F2 Abj A B) (ha:∀c∈A,Ld c.v) (hb:∀c∈B,Ld c.v):Ag (Ac tab) 14 [.sl n1 (vs GC.av A),.sl n2 (vs GC.av B)] (· =.bool true):=by
 have hlen:=s.len
 refine Ad rfl rfl ?_
 (conv=>whnf);repeat' (first  |(refine kA ?_;conv=>whnf)|(refine Br.mk (fun hc=>?_) fun hc=>?_<;>first|exact hc.elim|conv=>whnf)|(refine kB ?_))
 all_goals first|(exfalso;omega)|skip
 refine Af (fun m env s=>∃i:Nat,m=A.length-i∧env=[(0,.sl n1 (vs GC.av A)),(1,.sl n2 (vs GC.av B)),(5,.int .i64 i)]∧s=⟨[],0⟩) ?_ _ _ _ ⟨0,rfl,rfl,rfl⟩
 rintro _ _ _ ⟨i,rfl,rfl,rfl⟩
 refine⟨rfl,?_⟩
 by_cases hlt:i<A.length
 ·have hp:=AkI (s.at_ i hlt (by omega)) (ha _ (List.getElem_mem hlt)) (hb _ (List.getElem_mem (by omega)))
  (conv=>whnf);repeat' (first|(refine Aa hp ?_;rintro _ rfl;conv=>whnf)|(refine kA ?_;conv=>whnf)|(refine Br.mk (fun hc=>?_) fun hc=>?_<;>first|exact hc.elim|conv=>whnf)|(refine kB ?_))
  all_goals first|exact again.mk ⟨_,by omega,i+1,rfl,rfl,rfl⟩|(exfalso;omega)
 ·(conv=>whnf);repeat' (first  |(refine kA ?_;conv=>whnf)|(refine Br.mk (fun hc=>?_) fun hc=>?_<;>first|exact hc.elim|conv=>whnf)|(refine kB ?_))
  all_goals first|rfl|(exfalso;omega)
theorem of_run {a b:GG} (ha:a.ok) (hb:b.ok) (pa:CX a) (pb:CX b) (ea:AZ a=0) (eb:AZ b=0):∃nn,Ag (Ac tab) 32 [a.av,b.av] (· =.BG [.sl nn (vs GC.av (DT a b)),.int .i64 0]):=by
 obtain⟨_,⟨n1,rfl⟩,pP⟩:=(ofP ha hb (fun _=>pa) (fun _=>pb)).IJ
 have hoL:ofL a b=DT a b:=by unfold ofL;rw[if_pos ea,if_pos eb]
 have hoE:ofE a b=0:=by unfold ofE;rw[if_pos ea,eb]
 rw[hoL,hoE]at pP
 exact⟨n1,pP⟩
set_option maxRecDepth 10000 in
set_option maxHeartbeats 8000000 in
theorem AaX:∀xs,likes Tryz.prog [25,26] xs→Am (Ac tab) 3 xs ⟨[],0⟩ fun out _=>out=.ok (.bool true):=by
 intro xs h
 match xs,h with
 |[x,y],h=>
  obtain⟨h1,h2,_⟩:=h
  obtain⟨g,rfl,hg⟩:=NC h1
  obtain⟨nn,L,rfl,hL,hok⟩:=Iz h2
  obtain⟨_,⟨b1,rfl,q1⟩,p1⟩:=(AcC hg hg).IJ
  obtain⟨_,⟨b2,rfl,q2⟩,p2⟩:=(AgY (nn:=nn) hL hok).IJ
  refine Ah rfl rfl ?_
  cases b1
  case false=>
   (conv=>whnf);repeat' (first|(refine Aa p1 ?_;rintro _ rfl;conv=>whnf)|(refine Bo IB (fun _=>?_) (fun h=>absurd trivial h);conv=>whnf)|(refine kA ?_;conv=>whnf)|(refine Br.mk (fun hc=>?_) fun hc=>?_<;>first|exact hc.elim|conv=>whnf)|(refine kB ?_))
   all_goals first|rfl
  cases b2
  case false=>
   (conv=>whnf);repeat' (first|((first|refine Aa p1 ?_|refine Aa p2 ?_);rintro _ rfl;conv=>whnf)|(refine Bo IB (fun _=>?_) (fun h=>absurd trivial h);conv=>whnf)|(refine kA ?_;conv=>whnf)|(refine Br.mk (fun hc=>?_) fun hc=>?_<;>first|exact hc.elim|conv=>whnf)|(refine kB ?_))
   all_goals first|rfl
  obtain⟨sg,_⟩:=q1 rfl
  obtain⟨l30,Abg⟩:=q2 rfl
  have gN:=sg.1
  have gE:=sg.2.1
  obtain⟨_,⟨h',rfl,hn',ho'⟩,pR⟩:=(LX (nn:=nn) hg (by omega) hok (by omega) (by omega)).IJ
  have pP:=J5 (nn:=nn) hg (by omega) hok
  by_cases h0:(AX g L).2.2=0
  case neg=>
   generalize (AX g L).2.2=e at pR h0
   generalize (AX g L).2.1=n at pR
   (conv=>whnf);repeat' (first|((first|refine Aa p1 ?_|refine Aa p2 ?_|refine Aa pR ?_);rintro _ rfl;conv=>whnf)|(refine Bo IB (fun _=>?_) (fun h=>absurd trivial h);conv=>whnf)|(refine kA ?_;conv=>whnf)|(refine Br.mk (fun hc=>?_) fun hc=>?_<;>first|exact hc.elim|conv=>whnf)|(refine kB ?_))
   all_goals first|rfl|(exfalso;omega)
  obtain⟨cg,hrun⟩:=Lc h0
  have kg:=Zk cg
  rw[IC cg hrun]at pP
  rw[h0]at pR
  generalize (AX g L).1=h at hn' hrun pP
  generalize (AX g L).2.1=nR at pR
  have kh:=kg.run hrun
  have hh:=WQ hg kg hok hrun
  have lh:=Vo hrun
  have vg0:=AcD (ZF hg sg)
  have vh:=vg0.run (fun c hc=>⟨(hok c hc).2.2.2.2.2,Abg c hc⟩) hrun
  have pg:=WC hg sg cg
  have ph:=RF hh kh vh (by omega) (by omega)
  obtain⟨k,hk,Ahf,ksg⟩:=leads kg.vg kh.vg (by omega) (by omega)
  have ok1:=Yr hg hh
  have fin1:=Js (a:=g) ph
  have len1:=ND kg.vg kh.vg
  have kk:=kg.run hk
  have hko:=WQ hg kg ok1 hk
  have vk:=vg0.run fin1 hk
  have lk1:k.nodes.length≤100:=by rw[ksg.1.1];exact ph.nn
  have lk2:k.edges.length≤100:=by rw[ksg.2.1];exact ph.en
  have pk:=RF hko kk vk lk1 lk2
  obtain⟨n1,o1⟩:=of_run hg hh pg ph cg (Tc kh)
  obtain⟨n2,o2⟩:=of_run hg hko pg pk cg (Tc kk)
  have pA:=J5 (nn:=n1) hg len1 ok1
  rw[IC cg hk]at pA
  have pN1:=AdO pP o1
  have pN2:=AdO pA o2
  have aK:=Ahg (RG Ahf vk) (Abh hn' (RG kh.vg.ask vh))
  rw[decide_eq_true (AcE hn' ksg)]at aK
  have sS:=Abk (n1:=n2) (n2:=n1) (ND kg.vg kk.vg) (Yt ksg) (Js pk) fin1
  generalize DT g h=M at pA pN1 pN2 sS
  generalize DT g k=M2 at pN2 sS
  clear pP o1 o2 ok1 fin1 len1 hk vk pk ksg Ahf hrun vh ph q1 q2
  (conv=>whnf);repeat' (first|((first|refine Aa p1 ?_|refine Aa p2 ?_|refine Aa pR ?_|refine Aa pN1 ?_|refine Aa pA ?_|refine Aa pN2 ?_|refine Aa aK ?_|refine Aa sS ?_);rintro _ rfl;conv=>whnf)|(refine Bo IB (fun _=>?_) (fun h=>absurd trivial h);conv=>whnf)|(refine kA ?_;conv=>whnf)|(refine Br.mk (fun hc=>?_) fun hc=>?_<;>first|exact hc.elim|conv=>whnf)|(refine kB ?_))
  all_goals first|rfl|(exfalso;omega)
end AI
end Go.Proofs.YthnehejdkajjhaaGreatDoor
