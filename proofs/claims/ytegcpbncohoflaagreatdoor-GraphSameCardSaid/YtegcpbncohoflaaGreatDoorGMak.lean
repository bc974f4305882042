/- Same of graphs, both; a copy and what it is changed to: plain. The worked examples in the graph laws: reckoned by the kernel. The law GraphSame, about the evaluator. -/
import Derived.Test.YtegcpbncohoflaaGreatDoorGGsB
import Derived.Test.YtegcpbncohoflaaGreatDoorGGrCode
set_option linter.unusedVariables false
namespace Go.Proofs.YtegcpbncohoflaaGreatDoor
namespace AI
def JD (a b:GG):Prop:=a.BA=b.BA∧a.BF=b.BF∧SG a b
noncomputable instance (a b:GG):Decidable (JD a b):=by unfold JD;infer_instance
theorem Ls {a b:GG} (ha:FM a) (hb:FM b):Af (Ae tab) 7 [a.av,b.av] (· =.bool (decide (JD a b))):=by
 have hN:=Ab3 (nl:=a.nn) (nm:=b.nn) ha.1 hb.1 fun x hx y hy=>sn1 (ha.2.2.1 x hx) (hb.2.2.1 y hy)
 have hE:=Ab4 (nl:=a.en) (nm:=b.en) ha.2.1 hb.2.1 fun x hx y hy=>se1 (ha.2.2.2 x hx) (hb.2.2.2 y hy)
 by_cases n1:a.BA=b.BA
 case neg=>
  refine Ac rfl rfl ?_
  (conv=>whnf);repeat' (first  |(refine kA ?_;conv=>whnf)|(refine Br.mk (fun hc=>?_) fun hc=>?_<;>first|exact hc.elim|conv=>whnf)|(refine kB ?_))
  all_goals first|exact Ai (fun h=>n1 h.1)|exact absurd ‹_› n1
 by_cases n2:a.BF=b.BF
 case neg=>
  refine Ac rfl rfl ?_
  (conv=>whnf);repeat' (first  |(refine kA ?_;conv=>whnf)|(refine Br.mk (fun hc=>?_) fun hc=>?_<;>first|exact hc.elim|conv=>whnf)|(refine kB ?_))
  all_goals first|exact Ai (fun h=>n2 h.2.1)|exact absurd n1 ‹_› |exact absurd ‹_› n2
 by_cases e1:DT SN a.nodes b.nodes
 ·rw[decide_eq_true e1]at hN
  by_cases e2:DT SE a.edges b.edges
  ·rw[decide_eq_true e2]at hE
   refine Ac rfl rfl ?_
   (conv=>whnf);repeat' (first|((first|refine Aa hN ?_|refine Aa hE ?_);rintro _ rfl;conv=>whnf)|(refine kA ?_;conv=>whnf)|(refine Br.mk (fun hc=>?_) fun hc=>?_<;>first|exact hc.elim|conv=>whnf)|(refine kB ?_))
   all_goals first|exact AX ⟨n1,n2,e1,e2⟩|exact absurd n1 ‹_› |exact absurd n2 ‹_›
  ·rw[decide_eq_false e2]at hE
   refine Ac rfl rfl ?_
   (conv=>whnf);repeat' (first|((first|refine Aa hN ?_|refine Aa hE ?_);rintro _ rfl;conv=>whnf)|(refine kA ?_;conv=>whnf)|(refine Br.mk (fun hc=>?_) fun hc=>?_<;>first|exact hc.elim|conv=>whnf)|(refine kB ?_))
   all_goals first|exact Ai (fun h=>e2 h.2.2.2)|exact absurd n1 ‹_› |exact absurd n2 ‹_›
 ·rw[decide_eq_false e1]at hN
  refine Ac rfl rfl ?_
  (conv=>whnf);repeat' (first|((first|refine Aa hN ?_|refine Aa hE ?_);rintro _ rfl;conv=>whnf)|(refine kA ?_;conv=>whnf)|(refine Br.mk (fun hc=>?_) fun hc=>?_<;>first|exact hc.elim|conv=>whnf)|(refine kB ?_))
  all_goals first|exact Ai (fun h=>e1 h.2.2.1)|exact absurd n1 ‹_› |exact absurd n2 ‹_›
theorem Aac {a b:GG} (ha:FM a) (hb:FM b):Af (Ae tab) 8 [a.av,b.av] (· =.bool (decide (JD a b))):=by
 have hP:=YN ha hb
 by_cases n1:a.BA=b.BA
 case neg=>
  refine Ac rfl rfl ?_
  (conv=>whnf);repeat' (first  |(refine kA ?_;conv=>whnf)|(refine Br.mk (fun hc=>?_) fun hc=>?_<;>first|exact hc.elim|conv=>whnf)|(refine kB ?_))
  all_goals first|exact Ai (fun h=>n1 h.1)|exact absurd ‹_› n1
 by_cases n2:a.BF=b.BF
 case neg=>
  refine Ac rfl rfl ?_
  (conv=>whnf);repeat' (first  |(refine kA ?_;conv=>whnf)|(refine Br.mk (fun hc=>?_) fun hc=>?_<;>first|exact hc.elim|conv=>whnf)|(refine kB ?_))
  all_goals first|exact Ai (fun h=>n2 h.2.1)|exact absurd n1 ‹_› |exact absurd ‹_› n2
 by_cases e1:SG a b
 ·rw[decide_eq_true e1]at hP
  refine Ac rfl rfl ?_
  (conv=>whnf);repeat' (first|(refine Aa hP ?_;rintro _ rfl;conv=>whnf)|(refine kA ?_;conv=>whnf)|(refine Br.mk (fun hc=>?_) fun hc=>?_<;>first|exact hc.elim|conv=>whnf)|(refine kB ?_))
  all_goals first|exact AX ⟨n1,n2,e1⟩|exact absurd n1 ‹_› |exact absurd n2 ‹_›
 ·rw[decide_eq_false e1]at hP
  refine Ac rfl rfl ?_
  (conv=>whnf);repeat' (first|(refine Aa hP ?_;rintro _ rfl;conv=>whnf)|(refine kA ?_;conv=>whnf)|(refine Br.mk (fun hc=>?_) fun hc=>?_<;>first|exact hc.elim|conv=>whnf)|(refine kB ?_))
  all_goals first|exact Ai (fun h=>e1 h.2.2)|exact absurd n1 ‹_› |exact absurd n2 ‹_›
theorem Zp {g:GG} {n e:Int} (hn:n≤4000) (he:e≤4000) (hg:g.ok) (hs:SmG g n e):FM g∧∀n∈g.nodes,n.labels.length≤2000:=by
 obtain⟨s1,s2,s3,s4⟩:=hs
 obtain⟨g1,g2,g3,g4,g5,g6,g7,g8⟩:=hg
 refine⟨⟨by omega,by omega,fun m hm=>⟨by have:=(s3 m hm).1;omega,⟨by have:=(s3 m hm).2.2.1;omega,fun p hp=>⟨?_,((s3 m hm).2.2.2 p hp).2⟩⟩⟩,fun m hm=>⟨by have:=(s4 m hm).2.1;omega,fun p hp=>⟨?_,((s4 m hm).2.2 p hp).2⟩⟩⟩,fun m hm=>(s3 m hm).1⟩
 ·exact((g3 m hm).2.2.2.2.2.2 p hp).2
 ·exact((g6 m hm).2.2.2.2.2.2 p hp).2
theorem Zv.sp {p q:GP} (h:Zv p q):SP p q∧SP q p:=⟨⟨h.1.symm,UM h.2.sim⟩,⟨h.1,UM h.2.sim.symm⟩⟩
theorem DT.imp {α:Type} {R R':α→α→Prop} {l m:List α} (h:DT R l m) (k:∀x y,R x y→R' x y):DT R' l m:=⟨h.1,fun i a b=>k _ _ (h.2 i a b)⟩
theorem DT.flip {α:Type} {R R':α→α→Prop} {l m:List α} (h:DT R l m) (k:∀x y,R x y→R' y x):DT R' m l:=⟨h.1.symm,fun i a b=>k _ _ (h.2 i b a)⟩
theorem DT.ZF {l m:List GP} (h:DT Zv l m) (hl:l.length≤4000):JE m:=⟨by rw[← h.1];exact hl,fun q hq=>by
 obtain⟨i,hi,rfl⟩:=List.getElem_of_mem hq
 have:=h.2 i (by rw[h.1];exact hi) hi
 exact⟨this.2.ok,this.2.Ab5⟩⟩
theorem CpN.sn {m n:GN} (h:CpN m n):SN m n∧SN n m:=⟨⟨h.1.symm,h.2.1.symm,h.2.2.imp fun x y k=>k.sp.1⟩,⟨h.1,h.2.1,h.2.2.flip fun x y k=>k.sp.2⟩⟩
theorem CpE.se {m n:GE} (h:CpE m n):SE m n∧SE n m:=⟨⟨h.1.symm,h.2.1.symm,h.2.2.1.symm,h.2.2.2.1.symm,h.2.2.2.2.1.imp fun x y k=>k.sp.1⟩,⟨h.1,h.2.1,h.2.2.1,h.2.2.2.1,h.2.2.2.2.1.flip fun x y k=>k.sp.2⟩⟩
structure Wx (a c:GG):Prop where
 n:DT CpN a.nodes c.nodes
 e:DT CpE a.edges c.edges
 nN:c.BA=a.BA
 nE:c.BF=a.BF
theorem Wx.same {a c:GG} (h:Wx a c):JD a c∧JD c a:=
 ⟨⟨h.nN.symm,h.nE.symm,h.n.imp fun x y k=>k.sn.1,h.e.imp fun x y k=>k.se.1⟩,⟨h.nN,h.nE,h.n.flip fun x y k=>k.sn.2,h.e.flip fun x y k=>k.se.2⟩⟩
theorem Wx.fine {a c:GG} (h:Wx a c) (ha:FM a):FM c:=by
 obtain⟨a1,a2,a3,a4⟩:=ha
 refine⟨by rw[← h.n.1];exact a1,by rw[← h.e.1];exact a2,fun m hm=>?_,fun m hm=>?_⟩
 ·obtain⟨i,hi,rfl⟩:=List.getElem_of_mem hm
  have hi':i<a.nodes.length:=by rw[h.n.1];exact hi
  have k:=h.n.2 i hi' hi
  have f:=a3 _ (List.getElem_mem hi')
  exact⟨by rw[k.2.1];exact f.1,k.2.2.ZF f.2.1⟩
 ·obtain⟨i,hi,rfl⟩:=List.getElem_of_mem hm
  have hi':i<a.edges.length:=by rw[h.e.1];exact hi
  have k:=h.e.2 i hi' hi
  exact k.2.2.2.2.1.ZF (a4 _ (List.getElem_mem hi')).1
theorem Wx.more {a c:GG} (h:Wx a c) (ha:FM a) (hl:∀n∈a.nodes,n.labels.length≤2000) {i:Nat} (hi:i<c.nodes.length) {s:List UInt8} {m:GN} (hm:m.labels=(c.nodes[i]).labels++[s]) (hp:m.props=(c.nodes[i]).props) {c':GG} (hc:c'.nodes=c.nodes.set i m) (he:c'.edges=c.edges):FM c'∧¬JD a c':=by
 have hf:=h.fine ha
 have hi':i<a.nodes.length:=by rw[h.n.1];exact hi
 have k:=h.n.2 i hi' hi
 have hll:=hl _ (List.getElem_mem hi')
 have hml:m.labels.length=(a.nodes[i]).labels.length+1:=by rw[hm,k.2.1];simp
 refine⟨⟨by rw[hc,List.length_set];exact hf.1,by rw[he];exact hf.2.1,fun x hx=>?_,by rw[he];exact hf.2.2.2⟩,fun hs=>?_⟩
 ·rw[hc]at hx
  rcases List.mem_or_eq_of_mem_set hx with hx|rfl
  ·exact hf.2.2.1 x hx
  ·exact⟨by omega,by rw[hp];exact(hf.2.2.1 _ (List.getElem_mem hi)).2⟩
 ·have:=hs.2.2.1.2 i hi' (by rw[hc,List.length_set];exact hi)
  have e:c'.nodes[i]'(by rw[hc,List.length_set];exact hi)=m:=by simp[hc]
  rw[e]at this
  have:=this.2.1
  rw[this]at hml
  omega
theorem Wx.turn {a c:GG} (h:Wx a c) (ha:FM a) {i:Nat} (hi:i<c.edges.length) {m:GE} (hm:m.to≠(c.edges[i]).to) (hp:m.props=(c.edges[i]).props) {c':GG} (hc:c'.edges=c.edges.set i m) (he:c'.nodes=c.nodes):FM c'∧¬JD a c':=by
 have hf:=h.fine ha
 have hi':i<a.edges.length:=by rw[h.e.1];exact hi
 have k:=h.e.2 i hi' hi
 refine⟨⟨by rw[he];exact hf.1,by rw[hc,List.length_set];exact hf.2.1,by rw[he];exact hf.2.2.1,fun x hx=>?_⟩,fun hs=>?_⟩
 ·rw[hc]at hx
  rcases List.mem_or_eq_of_mem_set hx with hx|rfl
  ·exact hf.2.2.2 x hx
  ·rw[hp];exact hf.2.2.2 _ (List.getElem_mem hi)
 ·have:=hs.2.2.2.2 i hi' (by rw[hc,List.length_set];exact hi)
  have e:c'.edges[i]'(by rw[hc,List.length_set];exact hi)=m:=by simp[hc]
  rw[e]at this
  exact hm (this.2.2.1.symm.trans k.2.2.1.symm)
theorem Wx.next {a c:GG} (h:Wx a c) (ha:FM a) {z:Int} (hz:z≠c.BF) {c':GG} (hc:c'.edges=c.edges) (he:c'.nodes=c.nodes) (hn:c'.BF=z):FM c'∧¬JD a c':=by
 have hf:=h.fine ha
 refine⟨⟨by rw[he];exact hf.1,by rw[hc];exact hf.2.1,by rw[he];exact hf.2.2.1,by rw[hc];exact hf.2.2.2⟩,fun hs=>?_⟩
 have:=hs.2.1
 rw[hn,←h.nE]at this
 exact hz this.symm
theorem Yy {z:Int} (h:I64 z):∃y,IntKind.i64.wrap (z+1)=y∧y≠z:=by
 refine⟨_,rfl,?_⟩
 unfold I64 at h
 simp only[IntKind.wrap,IntKind.signed,IntKind.bits,Bool.true_and]
 split<;>(try simp at *)<;>omega
theorem Yx {z:Int} (h:I64 z):∃y,IntKind.i64.wrap (z-1)=y∧y≠z:=by
 refine⟨_,rfl,?_⟩
 unfold I64 at h
 simp only[IntKind.wrap,IntKind.signed,IntKind.bits,Bool.true_and]
 split<;>(try simp at *)<;>omega
set_option maxRecDepth 100000 in
theorem TK:DR (run (Ae tab) 60) 5 []=some (.bool true):=by kernel_rfl
theorem Qn:Af (Ae tab) 5 [] (· =.bool (decide True)):=⟨.bool true,⟨60,TK⟩,rfl⟩
theorem Wv {o g i n:Nat}:GI (.own o g i n) (.own o g i n)=true:=by simp[GI]
theorem Rd.sl {σ:List Obj} {b:Bool} {l:List AV}:Rd σ 1 (.sl b l) (.sl b l):=fun m hm=>by
 obtain⟨m,rfl⟩:∃m',m=m'+1:=⟨m-1,by omega⟩
 rfl
def Zo (KL:List KN) (EL:List GE) (x y:Int):GG:=⟨decide (KL≠[]),KL.map KN.n,decide (EL≠[]),EL,x,y⟩
theorem KN.sn {lo:Nat} {σ:List Obj} {e:KN} (h:e.Ok lo σ):Rd σ 5 e.av e.n.av:=by
 obtain⟨h1,h2,h3,h4⟩:=h
 have hd:Hd AV.str 1 σ (.own e.o e.g 0 e.n.labels.length) true e.n.labels true:=.inr ⟨rfl,_,_,rfl,h1⟩
 have h5:=hd.sn
 rw[← h3]at h5
 exact Rd.agg (Js.cons (Rd.int.mono (by omega)) (Js.cons (h5.mono (by omega)) (Js.cons (Rd.sl.mono (D':=1) (by omega)) (Js.nil.mono (D':=1) (by omega)))))
theorem Lr.rd {lo lo':Nat} {σ:List Obj} {v:AV} {K:List KN} (h:Lr lo σ v K) (hk:∀e∈K,e.Ok lo' σ):Rd σ (K.length+6) v (.sl (decide (K≠[])) (vs GN.av (K.map KN.n))):=by
 rcases h with⟨rfl,rfl⟩|⟨h1,o,g,rfl,h2,h3,h4⟩
 ·exact Rd.sl.mono (by omega)
 ·have hd:Hd KN.av 3 σ (.own o g 0 K.length) true K false:=.inr ⟨rfl,_,_,rfl,h2⟩
  have:=(hd.snE (g:=fun e=>e.n.av) (D:=5) (fun e he=>KN.sn (hk e he)) (by simp)).mono (D':=K.length+6) (by omega)
  rw[decide_eq_true h1]
  simpa[vs,Function.comp_def]using this
theorem Qo.rd {lo:Nat} {σ:List Obj} {v:AV} {E:List GE} (h:Qo lo σ v E):Rd σ 1 v (.sl (decide (E≠[])) (vs GE.av E)):=by
 rcases h with⟨rfl,rfl⟩|⟨h1,o,g,rfl,h2,h3⟩
 ·exact Rd.sl
 ·have hd:Hd GE.av 5 σ (.own o g 0 E.length) true E true:=.inr ⟨rfl,_,_,rfl,h2⟩
  rw[decide_eq_true h1]
  exact hd.sn
theorem rdC {lo lo' le:Nat} {σ:List Obj} {v w:AV} {K:List KN} {E:List GE} {x y:Int} (h:Lr lo σ v K) (hk:∀e∈K,e.Ok lo' σ) (h':Qo le σ w E):Rd σ (K.length+20) (.agg [v,w,.int .i64 x,.int .i64 y]) (Zo K E x y).av:=
 (Rd.agg (Js.cons ((h.rd hk).mono (D':=K.length+13) (by omega)) ((Js.cons (h'.rd.mono (D':=12) (by omega)) (Js.cons (Rd.int.mono (D':=11) (by omega)) (Js.cons (Rd.int.mono (D':=10) (by omega)) (Js.nil.mono (by omega))))).mono (D':=K.length+13) (by omega)))).mono (by omega)
theorem cpg {a:GG} {lo le:Nat} {σ σ':List Obj} {vN vE:AV} {KL:List KN} {EL:List GE} (h:Abq a lo le σ σ' vN vE KL EL):Wx a (Zo KL EL a.BA a.BF):=⟨h.cn,h.ce,rfl,rfl⟩
theorem Abr {lo oN:Nat} {σ τ:List Obj} {KL:List KN} {i:Nat} {e':KN} (hnd:(KL.map KN.o).Nodup) (Yu:∀e∈KL,e.Ok lo σ) (hN2:∀e∈KL,e.o≠oN) (hi:i<KL.length) (f:DK σ τ [KL[i].o,oN]) (he:e'.Ok lo τ):∀x∈KL.set i e',x.Ok lo τ:=by
 intro x hx
 obtain⟨j,hj,rfl⟩:=List.getElem_of_mem hx
 rw[List.getElem_set]
 rw[List.length_set]at hj
 by_cases e:i=j
 ·rw[if_pos e];exact he
 ·rw[if_neg e]
  obtain⟨a,b,c⟩:=Yu _ (List.getElem_mem hj)
  refine⟨f.get a fun hm=>?_,b,c⟩
  simp only[List.mem_cons,List.mem_nil_iff,or_false]at hm
  rcases hm with hm|hm
  ·have h1:=List.pairwise_iff_getElem.1 hnd
   rcases Nat.lt_or_gt_of_ne e with h|h
   ·have:=h1 i j (by simpa using hi) (by simpa using hj) h
    simp only[List.getElem_map]at this
    exact this hm.symm
   ·have:=h1 j i (by simpa using hj) (by simpa using hi) h
    simp only[List.getElem_map]at this
    exact this hm
  ·exact hN2 _ (List.getElem_mem hj) hm
set_option maxRecDepth 10000 in
set_option maxHeartbeats 16000000 in
theorem Wy:∀xs,likes Tryz.prog [25,25,5] xs→FB (Ae tab) 3 xs ⟨[],0⟩ fun out _=>out=.ok (.bool true):=by
 intro xs h
 match xs,h with
 |[x,y,z],h=>
  obtain⟨h1,h2,⟨d3,h3⟩,_⟩:=h
  obtain⟨a,rfl,ha⟩:=NG h1
  obtain⟨b,rfl,hb⟩:=NG h2
  obtain⟨z,rfl,hz⟩:=WA Tryz.underlying5 h3
  have hz':0≤z∧z<256:=by
   simp[Lit.wf]at hz
   have h1:IntKind.u8.min=0:=by rfl
   have h2:IntKind.u8.max=255:=by rfl
   omega
  clear hz h1 h2 h3 d3
  obtain⟨_,⟨b1,rfl,q1⟩,p1⟩:=(small (n:=60) (e:=100) ha).Yo
  obtain⟨_,⟨b2,rfl,q2⟩,p2⟩:=(small (n:=60) (e:=100) hb).Yo
  refine Lm rfl rfl ?_
  show vC _ _ [(0,.agg [.sl a.nn (vs GN.av a.nodes),.sl a.en (vs GE.av a.edges),.int .i64 a.BA,.int .i64 a.BF]),(1,.agg [.sl b.nn (vs GN.av b.nodes),.sl b.en (vs GE.av b.edges),.int .i64 b.BA,.int .i64 b.BF]),(2,.int .u8 z)] _ _
  cases b1
  case false=>
   (conv=>whnf);repeat' (first|(refine Aa p1 ?_;rintro _ rfl;conv=>whnf)|(refine BK Qn (fun _=>?_) (fun h=>absurd trivial h);conv=>whnf)|(refine kA ?_;conv=>whnf)|(refine Br.mk (fun hc=>?_) fun hc=>?_<;>first|exact hc.elim|conv=>whnf)|(refine kB ?_))
   all_goals first|rfl
  cases b2
  case false=>
   (conv=>whnf);repeat' (first|((first|refine Aa p1 ?_|refine Aa p2 ?_);rintro _ rfl;conv=>whnf)|(refine BK Qn (fun _=>?_) (fun h=>absurd trivial h);conv=>whnf)|(refine kA ?_;conv=>whnf)|(refine Br.mk (fun hc=>?_) fun hc=>?_<;>first|exact hc.elim|conv=>whnf)|(refine kB ?_))
   all_goals first|rfl
  obtain⟨fa,la⟩:=Zp (by omega) (by omega) ha (q1 rfl)
  obtain⟨fb,lb⟩:=Zp (by omega) (by omega) hb (q2 rfl)
  have pS1:=Ls fa fb
  have pS2:=Aac fa fb
  obtain⟨bb,hbb⟩:∃bb,decide (JD a b)=bb:=⟨_,rfl⟩
  rw[hbb]at pS1 pS2
  cases bb
  all_goals (
   (conv=>whnf);repeat' (first|((first|refine Aa p1 ?_|refine Aa p2 ?_);rintro _ rfl;conv=>whnf)|(refine kA ?_;conv=>whnf)|(refine Br.mk (fun hc=>?_) fun hc=>?_<;>first|exact hc.elim|conv=>whnf)|(refine kB ?_))
   refine Zq ha fa fun lo le σ1 c1 vN vE KL EL hC=>?_
   have ha1:nth σ1 0=some (.arr 0 4 true true [a.av]):=hC.frm.get rfl (by simp)
   have hb1:nth σ1 1=some (.arr 1 4 true true [b.av]):=hC.frm.get rfl (by simp)
   have hl1:2≤σ1.length:=hC.frm.len
   have hG:=cpg hC
   have Afd:2≤lo:=hC.glo
   obtain⟨Aeu,Aff,hCle,hCn,hCe,Abt,Ac6,Abu,Abv,Ac7,Afg⟩:=hC
   have hNs:=hCn
   rcases hCn with⟨hK0,rfl⟩|⟨hK0,oN,gN,rfl,Zr,Yv,Vp⟩
   all_goals (
     conv=>whnf
     (conv=>whnf);repeat' (first|(rw [h2];conv=>whnf)|(refine IU fun σ2 f2 h2 l2=>?_;have ha2:=f2.get ha1 (by simp);have hb2:=f2.get hb1 (by simp);conv=>whnf)|(refine CW h2 fun σ3 f3 h3 l3=>?_;have ha3:=f3.get ha2 (by simp;omega);have hb3:=f3.get hb2 (by simp;omega);conv=>whnf)|(refine kA ?_;conv=>whnf)|(refine Br.mk (fun hc=>?_) fun hc=>?_<;>first|exact hc.elim|conv=>whnf)|(refine kB ?_)))
   all_goals (
     replace f2:DK σ1 σ2 []:=f2
     replace f3:DK σ2 σ3 [σ1.length]:=f3
     replace l2:σ2.length=σ1.length+1:=l2
     replace l3:σ3.length=σ2.length:=l3
     have F3:DK σ1 σ3 [σ1.length]:=f2.trans f3
     have hF3:∀o∈[σ1.length],o<lo∨σ1.length≤o:=fun o ho=>.inr (by rw[List.mem_singleton.1 ho];exact Nat.le_refl _)
     have Ac8:∀o∈[σ1.length],o<le∨σ1.length≤o:=fun o ho=>.inr (by rw[List.mem_singleton.1 ho];exact Nat.le_refl _)
     have hN3:=hNs.fr F3 hF3
     have hO3:∀e∈KL,e.Ok lo σ3:=fun e he=>(Abt e he).fr F3 hF3
     have hE3:=hCe.fr F3 Ac8
     have hR3:=rdC (x:=a.BA) (y:=a.BF) hN3 hO3 hE3
     have hkl:=Ac7.1
     rw[List.length_map]at hkl
     have hk4:=fa.1
     have fc:=hG.fine fa
     have pT1:=Ls fa fc
     have pT2:=Ls fc fa
     rw[decide_eq_true hG.same.1]at pT1
     rw[decide_eq_true hG.same.2]at pT2
     clear h2 ha2 hb2)
   all_goals first
     |(have hK1:KL=[]:=hK0
       obtain⟨cl3,h3⟩:∃cl,nth σ3 σ1.length=some (.arr c1 4 true cl [.agg [.sl false [],vE,.int .i64 a.BA,.int .i64 a.BF]]):=⟨_,h3⟩
       (conv=>whnf);repeat' (first|(rw [h3];conv=>whnf)|((conv=>arg 2;change nth σ3 0;rw[ha3]);conv=>whnf)|((conv=>arg 2;change nth σ3 1;rw[hb3]);conv=>whnf)|(refine Cj (hR3 999998 (by omega)) ?_;conv=>whnf)|(refine Cj (hR3 999999 (by omega)) ?_;conv=>whnf)|((first|refine Aa pT1 ?_|refine Aa pT2 ?_|refine Aa pS1 ?_|refine Aa pS2 ?_);rintro _ rfl;conv=>whnf)|(refine kA ?_;conv=>whnf)|(refine Br.mk (fun hc=>?_) fun hc=>?_<;>first|exact hc.elim|conv=>whnf)|(refine kB ?_)))
     |(have hkp:0<KL.length:=List.length_pos_iff.2 hK0
       obtain⟨cl3,h3⟩:∃cl,nth σ3 σ1.length=some (.arr c1 4 true cl [.agg [.own oN gN 0 KL.length,vE,.int .i64 a.BA,.int .i64 a.BF]]):=⟨_,h3⟩
       have m1:=Int.tmod_nonneg (KL.length:Int) hz'.1
       have m2:=Int.tmod_lt_of_pos z (show (0:Int)<KL.length by omega)
       obtain⟨i,hii⟩:∃i:Nat,Int.tmod z KL.length=i:=⟨_,(Int.toNat_of_nonneg m1).symm⟩
       have hi:i<KL.length:=by omega
       have Abw:=F3.get Zr (by have:=BO Zr;simp;omega)
       have hL3:=(hO3 _ (List.getElem_mem hi)).1
       have hLo:=(hO3 _ (List.getElem_mem hi)).2.1
       have hLN:=Vp _ (List.getElem_mem hi)
       have hL1:=BO (Abt _ (List.getElem_mem hi)).1
       have hlb:=(fc.2.2.1 (KL[i]).n (List.mem_map.2 ⟨_,List.getElem_mem hi,rfl⟩)).1
       (conv=>whnf);repeat' (first|(rw [h3];conv=>whnf)|((conv=>arg 2;change nth σ3 0;rw[ha3]);conv=>whnf)|((conv=>arg 2;change nth σ3 1;rw[hb3]);conv=>whnf)|(refine Cj (hR3 999998 (by omega)) ?_;conv=>whnf)|(refine Cj (hR3 999999 (by omega)) ?_;conv=>whnf)|((first|refine Aa pT1 ?_|refine Aa pT2 ?_|refine Aa pS1 ?_|refine Aa pS2 ?_);rintro _ rfl;conv=>whnf)|(rw [Abw];conv=>whnf)|(refine Bq (nVz (f:=KN.av) i hii hi) ?_;conv=>whnf)|(rw [hL3];conv=>whnf)|(refine Yw (f:=.str) (l:=(KL[i]).n.labels) (x:=[90]) (fun _=>rfl) rfl (by omega) ?_;conv=>whnf)|(refine CW hL3 fun σ4 f4 h4 l4=>?_;have Abx:=f4.get Abw (by simp;omega);have h34:=f4.get h3 (by simp;omega);have ha4:=f4.get ha3 (by simp;omega);conv=>whnf)|(rw [h34];conv=>whnf)|(rw [Abx];conv=>whnf)|(refine CW Abx fun σ5 f5 h5 l5=>?_;have h35:=f5.get h34 (by have:=BO Zr;simp;omega);have ha5:=f5.get ha4 (by simp;omega);have hL5:=f5.get h4 (by simp;omega);conv=>whnf)|(rw [h35];conv=>whnf)|(refine AU Wv ?_;conv=>whnf)|(refine kA ?_;conv=>whnf)|(refine Br.mk (fun hc=>?_) fun hc=>?_<;>first|exact hc.elim|conv=>whnf)|(refine kB ?_)))
   all_goals first
     |(have hK1:KL=[]:=hK0
       obtain⟨σ5,hs5,ha5,l5,x5,cl5,h5⟩:∃σ5,σ5=σ3∧nth σ5 0=some (.arr 0 4 true true [a.av])∧σ1.length<σ5.length∧∃x cl,nth σ5 σ1.length=some (.arr c1 4 true cl [.agg [x,vE,.int .i64 a.BA,.int .i64 a.BF]]):=⟨σ3,rfl,ha3,BO h3,_,_,h3⟩
       rw[← hs5])
     |(obtain ⟨e',he'⟩:∃e':KN,e'=⟨⟨(KL[i]).n.id,true,(KL[i]).n.labels++[[90]],(KL[i]).n.pn,(KL[i]).n.props⟩,(KL[i]).o,c1+1⟩:=⟨_,rfl⟩
       have hw:Bj (KL[i]).av (0+1) (.own (KL[i]).o (c1+1) 0 ((KL[i]).n.labels.length+1))=e'.av:=by
        rw[he'];simp only[KN.av,List.length_append,List.length_singleton];rfl
       have hno:(Int.tmod z KL.length).toNat=i:=by omega
       have hms:(vs KN.av KL).set i e'.av=vs KN.av (KL.set i e'):=by simp[vs,List.map_set]
       replace h5:nth σ5 oN=some (.arr gN 3 true false ((vs KN.av KL).set (Int.tmod z KL.length).toNat (Bj (KL[i]).av (0+1) (.own (KL[i]).o (c1+1) 0 ((KL[i]).n.labels.length+1))))):=h5
       rw[hw,hno,hms]at h5
       replace hL5:nth σ5 (KL[i]).o=some (.arr (c1+1) 1 true true (vs .str ((KL[i]).n.labels++[[90]]))):=hL5
       replace f4:DK σ3 σ4 [(KL[i]).o]:=f4
       replace f5:DK σ4 σ5 [oN]:=f5
       have F5:DK σ3 σ5 [(KL[i]).o,oN]:=f4.trans f5
       have heO:e'.Ok lo σ5:=by
        rw[he'];exact⟨hL5,hLo,rfl,(hO3 _ (List.getElem_mem hi)).2.2.2⟩
       have hO5:=Abr Ac6 hO3 Vp hi F5 heO
       have hN5:Lr lo σ5 (.own oN gN 0 KL.length) (KL.set i e'):=.inr ⟨fun h=>hK0 (by have:=congrArg List.length h;rw[List.length_set]at this;exact List.eq_nil_of_length_eq_zero this),oN,gN,by rw[List.length_set],h5,Yv,fun x hx=>by
        rcases List.mem_or_eq_of_mem_set hx with hx|rfl
        ·exact Vp x hx
        ·rw[he'];exact hLN⟩
       have hE5:=hE3.fr F5 (by
        intro o ho
        simp only[List.mem_cons,List.mem_nil_iff,or_false]at ho
        rcases ho with rfl|rfl
        ·exact .inl (Abu _ (List.getElem_mem hi))
        ·exact .inl (Abv _ rfl))
       have hR5:=rdC (x:=a.BA) (y:=a.BF) hN5 hO5 hE5
       rw[List.length_set]at hR5
       obtain⟨fc5,ns5⟩:=hG.more fa la (i:=i) (by show i<(KL.map KN.n).length;rw[List.length_map];exact hi) (s:=[90]) (m:=e'.n) (by rw[he'];simp[Zo]) (by rw[he'];simp[Zo]) (c':=Zo (KL.set i e') EL a.BA a.BF) (by simp[Zo,List.map_set]) rfl
       have pT3:=Ls fa fc5
       rw[decide_eq_false ns5]at pT3
       (conv=>whnf);repeat' (first|((conv=>arg 2;change nth σ5 0;rw[ha5]);conv=>whnf)|(rw [h35];conv=>whnf)|(refine Cj (hR5 999998 (by omega)) ?_;conv=>whnf)|(refine Aa pT3 ?_;rintro _ rfl;conv=>whnf)|(refine kA ?_;conv=>whnf)|(refine Br.mk (fun hc=>?_) fun hc=>?_<;>first|exact hc.elim|conv=>whnf)|(refine kB ?_))
       obtain⟨x5,cl5,h5⟩:∃x cl,nth σ5 σ1.length=some (.arr c1 4 true cl [.agg [x,vE,.int .i64 a.BA,.int .i64 a.BF]]):=⟨_,_,h35⟩
       replace l5:σ1.length<σ5.length:=BO h35)
   all_goals (
     refine Zq ha fa fun lo' le' σ6 c6 vN' vE' KL' NH hC'=>?_
     have ha6:=hC'.frm.get ha5 (by simp)
     have h6:=hC'.frm.get h5 (by simp)
     have hG':=cpg hC'
     have fc':=hG'.fine fa
     obtain⟨Ade,AeB,AeC,Aby,Abz,Zt,AeD,Aae,Aaf,AbA,Zu⟩:=hC'
     have hkl':=AbA.1
     rw[List.length_map]at hkl'
     have Adf:=Abz
     rcases Abz with⟨hE0,rfl⟩|⟨hE0,oE,gE,rfl,hoE,Aag⟩
     all_goals (
      conv=>whnf
      (conv=>whnf);repeat' (first|(rw [h6];conv=>whnf)|(refine CW h6 fun σ7 f7 h7 l7=>?_;have ha7:=f7.get ha6 (by simp;omega);conv=>whnf)|(rw [h7];conv=>whnf)|(refine kA ?_;conv=>whnf)|(refine Br.mk (fun hc=>?_) fun hc=>?_<;>first|exact hc.elim|conv=>whnf)|(refine kB ?_)))
     all_goals (
      replace f7:DK σ6 σ7 [σ1.length]:=f7
      have Adg:σ1.length<lo':=by omega)
     all_goals first
      |(have hE1:NH=[]:=hE0
        obtain⟨y,hy,hyn⟩:=Yx (z:=a.BF) ha.2.2.2.2.2.2.2
        (conv=>whnf);repeat' (first|(refine BD hy ?_;conv=>whnf)|(rw [h7];conv=>whnf)|(refine CW h7 fun σ8 f8 h8 l8=>?_;have ha8:=f8.get ha7 (by simp;omega);conv=>whnf)|(refine kA ?_;conv=>whnf)|(refine Br.mk (fun hc=>?_) fun hc=>?_<;>first|exact hc.elim|conv=>whnf)|(refine kB ?_))
        obtain⟨cl8,h8⟩:∃cl,nth σ8 σ1.length=some (.arr c1 4 true cl [.agg [vN',.sl false [],.int .i64 a.BA,.int .i64 y]]):=⟨_,h8⟩
        replace f8:DK σ7 σ8 [σ1.length]:=f8
        have F8:DK σ6 σ8 [σ1.length]:=(f7.trans f8).mono (by intro o ho;simp only[List.cons_append,List.nil_append,List.mem_cons,List.mem_nil_iff,or_false]at ho ⊢;omega)
        have hF8:∀o∈[σ1.length],o<lo'∨σ6.length≤o:=fun o ho=>.inl (by rw[List.mem_singleton.1 ho];exact Adg)
        have Adi:∀o∈[σ1.length],o<le'∨σ6.length≤o:=fun o ho=>.inl (by rw[List.mem_singleton.1 ho];omega)
        have hR8:=rdC (x:=a.BA) (y:=y) (Aby.fr F8 hF8) (fun e he=>(Zt e he).fr F8 hF8) (Adf.fr F8 Adi)
        obtain⟨fc8,ns8⟩:=hG'.next fa (z:=y) hyn (c':=Zo KL' NH a.BA y) rfl rfl rfl
        have pT8:=Ls fa fc8
        rw[decide_eq_false ns8]at pT8
        (conv=>whnf);repeat' (first|((conv=>arg 2;change nth σ8 0;rw[ha8]);conv=>whnf)|(rw [h8];conv=>whnf)|(refine Cj (hR8 999998 (by omega)) ?_;conv=>whnf)|(refine Aa pT8 ?_;rintro _ rfl;conv=>whnf)|(refine BK Qn (fun _=>?_) (fun h=>absurd trivial h);conv=>whnf)|(refine kA ?_;conv=>whnf)|(refine Br.mk (fun hc=>?_) fun hc=>?_<;>first|exact hc.elim|conv=>whnf)|(refine kB ?_)))
      |(have hep:0<NH.length:=List.length_pos_iff.2 hE0
        first
        |(exfalso;omega)
        |(have m3:=Int.tmod_nonneg (NH.length:Int) hz'.1
          have m4:=Int.tmod_lt_of_pos z (show (0:Int)<NH.length by omega)
          obtain⟨j,hjj⟩:∃j:Nat,Int.tmod z NH.length=j:=⟨_,(Int.toNat_of_nonneg m3).symm⟩
          have hj:j<NH.length:=by omega
          have hjn:(Int.tmod z NH.length).toNat=j:=by omega
          have hj':j<a.edges.length:=by rw[Zu.1];exact hj
          obtain⟨y,hy,hyn⟩:=Yy (z:=(NH[j]).to) (by rw[(Zu.2 j hj' hj).2.2.1];exact(ha.2.2.2.2.2.1 _ (List.getElem_mem hj')).2.2.1)
          have AbC:=f7.get hoE (by simp;omega)
          (conv=>whnf);repeat' (first|(refine BD hy ?_;conv=>whnf)|(rw [h7];conv=>whnf)|(rw [AbC];conv=>whnf)|(refine Bq (nVz (f:=GE.av) j hjj hj) ?_;conv=>whnf)|(refine CW AbC fun σ8 f8 h8 l8=>?_;have ha8:=f8.get ha7 (by simp;omega);have h78:=f8.get h7 (by simp;omega);conv=>whnf)|(refine kA ?_;conv=>whnf)|(refine Br.mk (fun hc=>?_) fun hc=>?_<;>first|exact hc.elim|conv=>whnf)|(refine kB ?_))
          obtain⟨e2,he2⟩:∃e2:GE,e2=⟨(NH[j]).id,(NH[j]).fr,y,(NH[j]).ty,(NH[j]).pn,(NH[j]).props⟩:=⟨_,rfl⟩
          have hw:Bj (NH[j]).av (0+2) (.int .i64 y)=e2.av:=by rw[he2];rfl
          have hms:(vs GE.av NH).set j e2.av=vs GE.av (NH.set j e2):=by simp[vs,List.map_set]
          replace h8:nth σ8 oE=some (.arr gE 5 true true ((vs GE.av NH).set (Int.tmod z NH.length).toNat (Bj (NH[j]).av (0+2) (.int .i64 y)))):=h8
          rw[hw,hjn,hms]at h8
          replace f8:DK σ7 σ8 [oE]:=f8
          have F8:DK σ6 σ8 [σ1.length,oE]:=f7.trans f8
          have hgo:∀e∈KL',e.Ok lo' σ8:=fun e he=>by
             obtain⟨q1,q2,q3⟩:=Zt e he
             have:=Aae e he
             exact⟨F8.get q1 (by simp;omega),q2,q3⟩
          have hN8:Lr lo' σ8 vN' KL':=by
             rcases Aby with hx|⟨hx,o,g,rfl,hx2,hx3,hx4⟩
             ·exact .inl hx
             ·have:=Aaf o rfl
              exact .inr ⟨hx,o,g,rfl,F8.get hx2 (by simp;omega),hx3,hx4⟩
          have hE8:Qo le' σ8 (.own oE gE 0 NH.length) (NH.set j e2):=.inr ⟨fun h=>hE0 (by have:=congrArg List.length h;rw[List.length_set]at this;exact List.eq_nil_of_length_eq_zero this),oE,gE,by rw[List.length_set],h8,Aag⟩
          have hR8:=rdC (x:=a.BA) (y:=a.BF) hN8 hgo hE8
          obtain⟨fc8,ns8⟩:=hG'.turn fa (i:=j) hj (m:=e2) (by rw[he2];exact hyn) (by rw[he2];rfl) (c':=Zo KL' (NH.set j e2) a.BA a.BF) rfl rfl
          have pT8:=Ls fa fc8
          rw[decide_eq_false ns8]at pT8
          (conv=>whnf);repeat' (first|((conv=>arg 2;change nth σ8 0;rw[ha8]);conv=>whnf)|(rw [h78];conv=>whnf)|(refine Cj (hR8 999998 (by omega)) ?_;conv=>whnf)|(refine Aa pT8 ?_;rintro _ rfl;conv=>whnf)|(refine BK Qn (fun _=>?_) (fun h=>absurd trivial h);conv=>whnf)|(refine kA ?_;conv=>whnf)|(refine Br.mk (fun hc=>?_) fun hc=>?_<;>first|exact hc.elim|conv=>whnf)|(refine kB ?_)))))
   all_goals first|rfl)
end AI
end Go.Proofs.YtegcpbncohoflaaGreatDoor
