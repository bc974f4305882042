/- graph.Check, walked. A checked graph is one that an editor may edit; change.ApplyAll. Changes in a row; the changes of one node by a script: plain. The changes of one edge by a script: plain. -/
import Derived.Test.YthnehejdkajjhaaGreatDoorJMag
import Derived.Test.YthnehejdkajjhaaGreatDoorJMam
import Derived.Test.YthnehejdkajjhaaGreatDoorJDlA
import Derived.Test.YthnehejdkajjhaaGreatDoorJMai
set_option linter.unusedVariables false
set_option maxRecDepth 4000
namespace Go.Proofs.YthnehejdkajjhaaGreatDoor
namespace AI
theorem Ll {f:Nat→Int} {i:Nat} (h:∀k,k<i→f k=0) (hi:f i=0):∀k,k<i+1→f k=0:=by
 intro k hk
 rcases Nat.lt_or_ge k i with h1|h1
 ·exact h k h1
 ·obtain rfl:k=i:=by omega
  exact hi
theorem AoG {n:GN} (h:n.ok):Ag (Ac tab) 76 [.sl n.ln (vs .str n.labels),.sl n.pn (vs GP.av n.props)] (· =.int .i64 (DV n.labels n.props)):=
 AhR h.2.1 h.2.2.2.1 h.2.2.2.2.1 h.2.2.2.2.2.2
theorem Ak7 {n:GE} (h:n.ok):Ag (Ac tab) 76 [.sl false [],.sl n.pn (vs GP.av n.props)] (· =.int .i64 (DV [] n.props)):=
 AhR (L:=[]) (by decide) (by simp) h.2.2.2.2.1 h.2.2.2.2.2.2
theorem AoH {g:GG} (hg:g.ok) (hf:Gs g) (hnx:Hy g) {c:Nat} {Q:Aw→Env→Aq→Prop}
 (hret:∀r s,AV.int .i64 r=AV.int .i64 (AZ g)→Q .ret [(2,.int .i64 r)] s)
 (hend:(∀ k,k<g.nodes.length→ER g.nodes g.BF k=0)→∀c i,Q (.exit 0) [(1,.ref 0 0 0 0),(38,.sl g.nn (vs GN.av g.nodes)),(39,.int .i64 g.nodes.length),(40,.int .i64 i),(41,.bool false)] ⟨[.arr 0 4 true true [g.av]],c⟩):
 Run (Ac tab) (.loop l35_0_h l35_0_b) [(1,.ref 0 0 0 0),(38,.sl g.nn (vs GN.av g.nodes)),(39,.int .i64 g.nodes.length),(40,.int .i64 0)] ⟨[.arr 0 4 true true [g.av]],c⟩ Q:=by
 obtain⟨g1,g2,g3,g4,g5,g6,g7,g8⟩:=hg
 unfold Ln at g1 g4
 have hf':g.nodes.length≤2000:=hf.1
 refine Af (fun m env s=>∃i:Nat,m=g.nodes.length-i∧env=[(1,.ref 0 0 0 0),(38,.sl g.nn (vs GN.av g.nodes)),(39,.int .i64 g.nodes.length),(40,.int .i64 i)]∧(∃ c,s=⟨[.arr 0 4 true true [g.av]],c⟩)∧∀k,k<i→ER g.nodes g.BF k=0) ?_ _ _ _ ⟨0,rfl,by simp,⟨_,rfl⟩,fun k h=>absurd h (by omega)⟩
 rintro _ _ _ ⟨i,rfl,rfl,⟨c,rfl⟩,hx⟩
 refine⟨rfl,?_⟩
 have hat:∀h:i<g.nodes.length,(g.nodes[i]).ok:=fun h=>g3 _ (List.getElem_mem _)
 (conv=>whnf);repeat' (first|(apply Au;(· exact nVz (i-1) (by omega) (by omega));conv=>whnf)|(refine Aa (AoG (n:=g.nodes[i]) (hat (by omega))) ?_;rintro _ rfl;conv=>whnf)|(refine hret _ _ ?_)|(refine hend (fun k hk=>hx k (by omega)) _ _)|(refine kA ?_;conv=>whnf)|(refine Br.mk (fun hc=>?_) fun hc=>?_<;>first|exact hc.elim|conv=>whnf)|(refine kB ?_))
 all_goals first
  |exact again.mk ⟨_,by omega,i+1,rfl,rfl,⟨_,rfl⟩,Ll hx ((AaB (by omega) (fun h=>by first|assumption|omega) (by omega)).trans hc)⟩
  |exact checkN hf hnx (by omega) hx (AcT (by omega) (by omega) (by assumption)) (by decide)
  |exact checkN hf hnx (by omega) hx (node1 (by omega) (fun h=>by first|assumption|omega) (by omega)) (by decide)
  |exact checkN hf hnx (by omega) hx (AaB (by omega) (fun h=>by first|assumption|omega) (by omega)) hc
set_option maxHeartbeats 1000000 in
theorem AoI {g:GG} (hg:g.ok) (hf:Gs g) (hnx:Hy g) (hN:∀k,k<g.nodes.length→ER g.nodes g.BF k=0) {c:Nat} {Q:Aw→Env→Aq→Prop}
 (hret:∀r s,AV.int .i64 r=AV.int .i64 (AZ g)→Q .ret [(2,.int .i64 r)] s)
 (hend:(∀ k,k<g.edges.length→EX g.nodes g.edges g.BA k=0)→∀c i,Q (.exit 2) [(1,.ref 0 0 0 0),(79,.sl g.en (vs GE.av g.edges)),(80,.int .i64 g.edges.length),(81,.int .i64 i),(82,.bool false)] ⟨[.arr 0 4 true true [g.av]],c⟩):
 Run (Ac tab) (.loop l35_1_h l35_1_b) [(1,.ref 0 0 0 0),(79,.sl g.en (vs GE.av g.edges)),(80,.int .i64 g.edges.length),(81,.int .i64 0)] ⟨[.arr 0 4 true true [g.av]],c⟩ Q:=by
 obtain⟨g1,g2,g3,g4,g5,g6,g7,g8⟩:=hg
 unfold Ln at g1 g4
 have hf':g.edges.length≤4000:=hf.2
 have hI:=AcU hN
 have hl:g.nodes.length<2^62:=by have:=hf.1;omega
 refine Af (fun m env s=>∃i:Nat,m=g.edges.length-i∧env=[(1,.ref 0 0 0 0),(79,.sl g.en (vs GE.av g.edges)),(80,.int .i64 g.edges.length),(81,.int .i64 i)]∧(∃ c,s=⟨[.arr 0 4 true true [g.av]],c⟩)∧∀k,k<i→EX g.nodes g.edges g.BA k=0) ?_ _ _ _ ⟨0,rfl,by simp,⟨_,rfl⟩,fun k h=>absurd h (by omega)⟩
 rintro _ _ _ ⟨i,rfl,rfl,⟨c,rfl⟩,hx⟩
 refine⟨rfl,?_⟩
 have hat:∀h:i<g.edges.length,(g.edges[i]).ok:=fun h=>g6 _ (List.getElem_mem _)
 (conv=>whnf);repeat' (first|(apply Au;(· exact nVz (i-1) (by omega) (by omega));conv=>whnf)|(refine Bo (Au8 hl hI) (fun hc=>?_) (fun hc=>?_)<;>conv=>whnf)|(refine Bo (name1 (s:=(g.edges[i]).ty) (hat (by omega)).2.2.2.1) (fun hnm=>?_) (fun hnm=>?_)<;>conv=>whnf)|(refine Aa (Ak7 (n:=g.edges[i]) (hat (by omega))) ?_;rintro _ rfl;conv=>whnf)|(refine hret _ _ ?_)|(refine hend (fun k hk=>hx k (by omega)) _ _)|(refine kA ?_;conv=>whnf)|(refine Br.mk (fun hc=>?_) fun hc=>?_<;>first|exact hc.elim|conv=>whnf)|(refine kB ?_))
 all_goals first
  |exact again.mk ⟨_,by omega,i+1,rfl,rfl,⟨_,rfl⟩,Ll hx ((AaC (by omega) (fun h=>by first|assumption|omega) (by omega) ⟨by assumption,by assumption⟩ hnm).trans hc)⟩
  |exact PV hf hnx hN (by omega) hx (AcV (by omega) (by omega) (by assumption)) (by decide)
  |exact PV hf hnx hN (by omega) hx (AhS (by omega) (fun h=>by first|assumption|omega) (by omega)) (by decide)
  |exact PV hf hnx hN (by omega) hx (AcW (by omega) (fun h=>by first|assumption|omega) (by omega) (fun h=>by first|exact absurd h.1 (by assumption)|exact absurd h.2 (by assumption))) (by decide)
  |exact PV hf hnx hN (by omega) hx (AhT (by omega) (fun h=>by first|assumption|omega) (by omega) ⟨by assumption,by assumption⟩ hnm) (by decide)
  |exact PV hf hnx hN (by omega) hx (AaC (by omega) (fun h=>by first|assumption|omega) (by omega) ⟨by assumption,by assumption⟩ hnm) hc
theorem VI {g:GG} (hg:g.ok):Ag (Ac tab) 35 [g.av] (· =.int .i64 (AZ g)):=by
 have hg0:=hg
 obtain⟨g1,g2,g3,g4,g5,g6,g7,g8⟩:=hg
 unfold Ln at g1 g4
 refine Ad rfl rfl ?_
 (conv=>whnf);repeat' (first|(refine kA ?_;conv=>whnf)|(refine Br.mk (fun hc=>?_) fun hc=>?_<;>first|exact hc.elim|conv=>whnf)  |(refine kB ?_))
 all_goals first|exact AhU (by unfold Gs;omega)|exact AhV (by unfold Gs;omega) (by unfold Hy;omega)|skip
 have hf:Gs g:=by unfold Gs;omega
 have hnx:Hy g:=by unfold Hy;omega
 refine AoH hg0 hf hnx (fun r s h=>by(conv=>whnf);(apply Ae;(· rfl);conv=>whnf);(apply Ae;(· rfl);conv=>whnf);exact h) (fun hN c i=>?_)
 (conv=>whnf);repeat' (first|(refine kA ?_;conv=>whnf)|(refine Br.mk (fun hc=>?_) fun hc=>?_<;>first|exact hc.elim|conv=>whnf)  |(refine kB ?_))
 refine AoI hg0 hf hnx hN (fun r s h=>by(conv=>whnf);(apply Ae;(· rfl);conv=>whnf);(apply Ae;(· rfl);conv=>whnf);exact h) (fun hE c i=>?_)
 (conv=>whnf);repeat' (first|(refine kA ?_;conv=>whnf)|(refine Br.mk (fun hc=>?_) fun hc=>?_<;>first|exact hc.elim|conv=>whnf)  |(refine kB ?_))
 exact Ack hf hnx hN hE
theorem Aam {α κ:Type} {lt:κ→κ→Bool} {key:α→κ} (hs:Ov lt) {l:List α} (h:∀j (hj:j+1<l.length),lt (key l[j]) (key l[j+1])=true):Inc lt key l:=by
 refine List.pairwise_iff_getElem.2 fun i j hi hj hij=>?_
 obtain⟨d,rfl⟩:∃d,j=i+1+d:=⟨j-(i+1),by omega⟩
 clear hij
 induction d with
 |zero=>exact h i hj
 |succ d ih=>exact hs.tr _ _ _ (ih (by omega)) (h (i+1+d) (by omega))
theorem Y3 {l:List (List UInt8)} (h:rises l):Inc Op.bytesLess id l:=by
 refine Aam Ai fun j hj=>?_
 have:=h j hj
 simp only[Bool.or_eq_false_iff,beq_eq_false_iff_ne]at this
 cases hb:Op.bytesLess (id l[j]) (id l[j+1])with
 |true=>rfl
 |false=>exact absurd (Ai.tot _ _ this.1 hb) this.2
theorem Sv {L:List (List UInt8)} {P:List GP} (h:DV L P=0):L.length≤8∧P.length≤16∧rises L∧rises (keysOf P)∧allNames L∧allNames (keysOf P)∧allPlain P:=by
 by_cases h1:8<L.length∨16<P.length
 ·have:=PD h1;rw[h]at this;simp at this
 by_cases h2:allNames L∧allNames (keysOf P)
 case neg=>have:=PE h1 h2;rw[h]at this;simp at this
 by_cases h3:rises L∧rises (keysOf P)
 case neg=>have:=Md h1 h2 h3;rw[h]at this;simp at this
 by_cases h4:allPlain P
 case neg=>have:=Vh h1 h2 h3 h4;rw[h]at this;simp at this
 exact⟨by omega,by omega,h3.1,h3.2,h2.1,h2.2,h4⟩
theorem Ab0 {P:List GP} (h:rises (keysOf P)):Inc Op.bytesLess GP.key P:=by
 have:=Y3 h
 unfold Inc keysOf at this
 rw[List.pairwise_map]at this
 exact this
theorem Td {g:GG} (h:AZ g=0):Ef g:=by
 obtain⟨hf,hn,hN,hE⟩:=LU h
 refine⟨hf.1,hf.2,Aam Ak fun j hj=>?_,Aam Ak fun j hj=>?_,fun n hm=>?_,fun n hm=>?_,?_,?_⟩
 ·have:=(KP hj (hN _ hj)).1 (by omega)
  simpa[BX]using this
 ·have:=(MZ hj (hE _ hj)).1 (by omega)
  simpa[BX]using this
 ·obtain⟨i,hi,rfl⟩:=List.getElem_of_mem hm
  obtain⟨a1,a2,a3,a4,_⟩:=Sv (KP hi (hN i hi)).2.2.2
  exact⟨Y3 a3,a1,Ab0 a4,a2⟩
 ·obtain⟨i,hi,rfl⟩:=List.getElem_of_mem hm
  obtain⟨a1,a2,a3,a4,_⟩:=Sv (MZ hi (hE i hi)).2.2.2.2.2.2
  exact⟨Ab0 a4,a2⟩
 ·have:=hn.1;have:=hn.2.1;omega
 ·have:=hn.2.2.1;have:=hn.2.2.2;omega
theorem ApE {g:GG} (hg:g.ok) (h:AZ g=0):Few g:=by
 have ha:=Td h
 exact⟨hg,ha.lN,ha.lE,fun n hn=>⟨(ha.aN n hn).lL,(ha.aN n hn).lP⟩,fun n hn=>(ha.aE n hn).lP⟩
noncomputable def AX (g:GG) (L:List GC):GG×Nat×Int:=if AZ g≠0 then(EP,0,AZ g)else Jl g L 0
theorem Cp.ed {σ0 σ σ':List Obj} {oN uN nN oE uE nE gd:Nat} {g:GG} {N:List EN} {E:List EE} (h:Cp σ0 σ (.own oN uN 0 nN) (.own oE uE 0 nE) g N E) (hf:Fr σ σ' []) (hb:nth σ' σ.length=some (.arr gd 4 true false [.agg [.own oN uN 0 nN,.own oE uE 0 nE,.int .i64 g.BF,.int .i64 g.BA]])):EdG σ' σ.length gd g:=by
 obtain⟨cn,hn1,hn2⟩:=h.hn
 obtain⟨ce,he1,he2⟩:=h.he
 refine⟨_,_,g.nn,g.en,N,E,g.BF,g.BA,⟨hb,⟨cn,hn1.keep fun o ho=>hf.eq o (hn1.lt o ho) (by simp),hn2⟩,⟨ce,he1.keep fun o ho=>hf.eq o (he1.lt o ho) (by simp),he2⟩,
  fun e he=>(h.hN e he).keep fun o ho=>hf.eq o ((h.hN e he).lt o ho) (by simp),fun e he=>(h.hE e he).keep fun o ho=>hf.eq o ((h.hE e he).lt o ho) (by simp),
  List.nodup_cons.2 ⟨fun hm=>?_,h.nd⟩,by simp,by simp⟩,?_⟩
 ·have hlt:σ.length<σ.length:=by
   rcases List.mem_append.1 hm with hm|hm
   ·exact hn1.lt _ hm
   rcases List.mem_append.1 hm with hm|hm
   ·exact he1.lt _ hm
   rcases List.mem_append.1 hm with hm|hm<;>obtain⟨e,he,hm⟩:=List.mem_flatMap.1 hm
   ·exact(h.hN e he).lt _ hm
   ·exact(h.hE e he).lt _ hm
  omega
 ·obtain⟨a,b,c,d,e,f⟩:=g
  have h1:=h.mN
  have h2:=h.mE
  simp only[LP]at*
  rw[h1,h2]
theorem ApF {σ:List Obj} {o g c':Nat} {nn cl:Bool} {a b c d x y:AV} (ha:a.cells.length=1) (hb:b.cells.length=1) (h:nth σ o=some (.arr g 4 nn cl [.agg [a,b,c,d]])):FP [(4,.ref o g 0 0),(5,x),(6,y)] ⟨σ,c'⟩ a12.results=some [.agg [a,b,c,d],x,y]:=by
 show(match I7 [(4,.ref o g 0 0),(5,x),(6,y)] ⟨σ,c'⟩ (.cell 4 (some 4)),FP [(4,.ref o g 0 0),(5,x),(6,y)] ⟨σ,c'⟩ [.tmp 5,.tmp 6]with
  |some v,some vs=>some (v::vs)
  |_,_=>none)=_
 have e:I7 [(4,.ref o g 0 0),(5,x),(6,y)] ⟨σ,c'⟩ (.cell 4 (some 4))=some (.agg [a,b,c,d]):=by
  simp[I7,Env.get,h,nth,AV.cells,loadCells]
 rw[e]
 rfl
theorem Ajg {AP:Nat→Option Jc} {f:Nat} {fn:Jr} {args:List AV} {R:AV→Prop} (hf:AP f=some (.code fn)) (hl:args.length=fn.np) (h:vC AP fn.body (params args 0) ⟨[],0⟩ (Aa0 fn fun out s'=>∃r v,out=.ok r∧snap s'.σ F5 r=some v∧R v)):Ag AP f args R:=by
 obtain⟨N,out,s',h1,r,v,rfl,h3,h4⟩:=Xp hf hl (KH h)
 exact⟨v,⟨N,by simp only[Fb,h1];exact h3⟩,h4⟩
theorem Rd.BG {σ:List Obj} {D:Nat} {xs ys:List AV} (h:MJ σ D xs ys):Rd σ (D+1) (.BG xs) (.BG ys):=fun m hm=>by
 obtain⟨m,rfl⟩:∃m',m=m'+1:=⟨m-1,by omega⟩
 simp only[snap,h m (by omega),Option.map_some]
theorem Rd.sl {σ:List Obj} {b:Bool} {xs:List AV}:Rd σ 1 (.sl b xs) (.sl b xs):=fun m hm=>by
 obtain⟨m,rfl⟩:∃m',m=m'+1:=⟨m-1,by omega⟩
 rfl
theorem Aan {σ:List Obj}:Rd σ 10 (.agg [.sl false [],.sl false [],.int .i64 0,.int .i64 0]) EP.av:=
 (Rd.agg (MJ.cons (Rd.sl.mono (D':=5) (by omega)) (MJ.cons (Rd.sl.mono (D':=4) (by omega)) (MJ.cons (Rd.int.mono (D':=3) (by omega)) (MJ.cons (Rd.int.mono (D':=2) (by omega)) (MJ.nil.mono (by omega))))))).mono (by omega)
theorem rd3 {σ:List Obj} {D:Nat} {a b:AV} {x y:Int} (h:Rd σ D a b) (hD:D≤999000):snap σ F5 (.BG [a,.int .i64 x,.int .i64 y])=some (.BG [b,.int .i64 x,.int .i64 y]):=
 (Rd.BG (MJ.cons (h.mono (D':=D+3) (by omega)) (MJ.cons (Rd.int.mono (D':=D+2) (by omega)) (MJ.cons (Rd.int.mono (D':=D+1) (by omega)) (MJ.nil.mono (by omega)))))) F5 (by unfold F5;omega)
theorem Hd.Anb {α:Type} {f:α→AV} {es:Nat} {σ:List Obj} {v:AV} {b c:Bool} {l:List α} (h:Hd f es σ v b l c) (h0:v≠.sl false []):∃o g n,v=.own o g 0 n:=by
 rcases h with⟨_,_,rfl|⟨o',g,es',rfl,h⟩⟩|⟨_,o',g,rfl,h⟩
 ·exact absurd rfl h0
 ·exact⟨_,_,_,rfl⟩
 ·exact⟨_,_,_,rfl⟩
set_option maxHeartbeats 4000000 in
theorem J5 {g:GG} {L:List GC} {nn:Bool} (hg:g.ok) (hL:L.length<2 ^ 62) (hok:∀c∈L,c.ok):
 Ag (Ac tab) 12 [g.av,.sl nn (vs GC.av L)] (· =.BG [(AX g L).1.av,.int .i64 (AX g L).2.1,.int .i64 (AX g L).2.2]):=by
 have hck:=VI hg
 refine Ajg rfl rfl ?_
 show vC _ _ [(0,.agg [.sl g.nn (vs GN.av g.nodes),.sl g.en (vs GE.av g.edges),.int .i64 g.BF,.int .i64 g.BA]),(1,.sl nn (vs GC.av L))] _ _
 by_cases h0:AZ g=0
 ·have ha:=Td h0
  have hfw:=ApE hg h0
  have hlL:(vs GC.av L).length=L.length:=lV _
  rw[h0]at hck
  (conv=>whnf);repeat' (first|(refine Aa hck ?_;rintro _ rfl;conv=>whnf)|(refine Akm hfw fun σ' c' oN uN nN oE uE nE N E hcp=>?_;conv=>whnf)|(refine kA ?_;conv=>whnf)|(refine Br.mk (fun hc=>?_) fun hc=>?_<;>first|exact hc.elim|conv=>whnf)|(refine kB ?_))
  have hz:=hcp.fr.get (o:=1) rfl (by simp)
  refine Dh fun σ1 f1 h1 l1=>?_
  have hz1:=f1.get hz (by simp)
  have hzl:=Dc hz
  (conv=>whnf);repeat' (first|(rw [h1];conv=>whnf)|(refine (Eb _ _).2 ?_;conv=>whnf)|(refine F7 h1 fun σ2 f2 h2 l2=>?_;conv=>whnf)|(refine kA ?_;conv=>whnf)|(refine Br.mk (fun hc=>?_) fun hc=>?_<;>first|exact hc.elim|conv=>whnf)|(refine kB ?_))
  have f02:Fr σ' σ2 []:=((f1.mono (F':=[σ'.length]) (by simp)).trans f2).mono (by simp)
  have hz2:=f02.get hz (by simp)
  have hEd:=hcp.ed f02 h2
  refine AlT hL hok hEd ha hz2 (fun σ3 c3 i e hr hz3=>?_) (fun σ3 c3 h tl hr hE3 ha3 hz3=>?_)
  ·have hR:AX g L=(EP,i,e):=by unfold AX;rw[if_neg (fun h=>h h0),hr]
   rw[hR]
   conv=>whnf
   exact⟨_,ApF rfl rfl hz3,_,_,rfl,rd3 Aan (by omega),rfl⟩
  ·have hR:AX g L=(h,L.length,0):=by unfold AX;rw[if_neg (fun h=>h h0),hr]
   rw[hR]
   obtain⟨vN,vE,nb,eb,N3,E3,x,y,Adj,hgo⟩:=hE3
   obtain⟨cn,hn1,_⟩:=Adj.hn
   obtain⟨ce,he1,_⟩:=Adj.he
   obtain⟨o1,u1,k1,rfl⟩:=hn1.Anb Adj.oN
   obtain⟨o2,u2,k2,rfl⟩:=he1.Anb Adj.oE
   have hb3:=Adj.box
   have hnz:=Adj.AeL hz3
   subst hgo
   have hq:=ha3.ask
   have hlN:=hq.lN
   have hlE:=hq.lE
   (conv=>whnf);repeat' (first|(rw [hb3];conv=>whnf)|(rw [hz3];conv=>whnf)|(refine (Eb _ _).2 ?_;conv=>whnf)|(refine F7 hz3 fun σ4 f4 h4 l4=>?_;conv=>whnf)|(refine kA ?_;conv=>whnf)|(refine Br.mk (fun hc=>?_) fun hc=>?_<;>first|exact hc.elim|conv=>whnf)|(refine kB ?_))
   have hE4:=Adj.fr f4 (fun o ho hm=>hnz (by simp only[List.mem_singleton]at hm;subst hm;exact ho))
   exact⟨_,ApF rfl rfl h4,_,_,rfl,rd3 hE4.snG (by omega),rfl⟩
 ·have hR:AX g L=(EP,0,AZ g):=by unfold AX;rw[if_pos h0]
  rw[hR]
  (conv=>whnf);repeat' (first|(refine Aa hck ?_;rintro _ rfl;conv=>whnf)|(refine kA ?_;conv=>whnf)|(refine Br.mk (fun hc=>?_) fun hc=>?_<;>first|exact hc.elim|conv=>whnf)|(refine kB ?_))
  all_goals first|(exfalso;omega)|exact⟨_,ApF rfl rfl rfl,_,_,rfl,rd3 Aan (by omega),rfl⟩|exact⟨_,_,rfl,rd3 Aan (by omega),rfl⟩
noncomputable def FT:GG→List GC→Option GG
 |g,[]=>some g
 |g,c::cs=>if(stepG g c).1=0 then FT (stepG g c).2 cs else none
theorem Hg {g h k:GG} {c:GC} {L:List GC} (h1:stepG g c=(0,h)) (h2:FT h L=some k):FT g (c::L)=some k:=by
 rw[FT,h1,if_pos rfl];exact h2
theorem Hq {A B:List GC}:∀{g h k:GG},FT g A=some h→FT h B=some k→FT g (A++B)=some k:=by
 induction A with
 |nil=>intro g h k h1 h2;cases h1;exact h2
 |cons c A ih=>
  intro g h k h1 h2
  rw[FT]at h1
  split at h1
  ·rename_i h0
   rw[List.cons_append,FT,if_pos h0];exact ih h1 h2
  ·cases h1
theorem Alz {L:List GC}:∀{g h:GG} {i:Nat},FT g L=some h→Jl g L i=(h,i+L.length,0):=by
 induction L with
 |nil=>intro g h i e;cases e;rfl
 |cons c L ih=>
  intro g h i e
  rw[FT]at e
  split at e
  ·rename_i h0
   rw[Jl,if_neg (fun k=>k h0),ih e,List.length_cons]
   congr 2;omega
  ·cases e
structure VN (n:GN):Prop where
 id:Jw n.id
 nl:allNames n.labels
 nk:allNames (keysOf n.props)
 pl:allPlain n.props
 a:YE n
structure VE (n:GE):Prop where
 id:Jw n.id
 ty:isName n.ty
 nk:allNames (keysOf n.props)
 pl:allPlain n.props
 a:YF n
structure VG (g:GG):Prop where
 ask:Ef g
 n:∀n∈g.nodes,VN n
 e:∀n∈g.edges,VE n
 ends:∀e∈g.edges,(∃ n∈g.nodes,n.id=e.fr)∧∃n∈g.nodes,n.id=e.to
theorem Aqj {g:GG} (h:AZ g=0):VG g:=by
 have ha:=Td h
 obtain⟨hf,hn,hN,hE⟩:=LU h
 refine⟨ha,fun n hm=>?_,fun n hm=>?_,fun n hm=>?_⟩
 ·have hA:=ha.aN n hm
  obtain⟨i,hi,rfl⟩:=List.getElem_of_mem hm
  have h2:=KP hi (hN i hi)
  obtain⟨a1,a2,a3,a4,a5,a6,a7⟩:=Sv h2.2.2.2
  exact⟨⟨h2.2.1,by have:=hn.2.1;have:=h2.2.2.1;omega⟩,a5,a6,a7,hA⟩
 ·have hA:=ha.aE n hm
  obtain⟨i,hi,rfl⟩:=List.getElem_of_mem hm
  have h2:=MZ hi (hE i hi)
  obtain⟨a1,a2,a3,a4,a5,a6,a7⟩:=Sv h2.2.2.2.2.2.2
  exact⟨⟨h2.2.1,by have:=hn.2.2.2;have:=h2.2.2.1;omega⟩,h2.2.2.2.2.2.1,a6,a7,hA⟩
 ·obtain⟨i,hi,rfl⟩:=List.getElem_of_mem hm
  have h2:=MZ hi (hE i hi)
  exact⟨List.mem_map.1 h2.2.2.2.1,List.mem_map.1 h2.2.2.2.2.1⟩
theorem ck0 {c:GC} (h1:¬G7 c) (h2:Oi c.op→isName c.name) (h3:Un c.op→isNull c.v∨DW c.v):Il c=0:=by
 unfold Il
 rw[if_neg h1,if_neg (fun h=>h.2 (h2 h.1)),if_neg (fun h=>(h3 h.1).elim h.2.1 h.2.2)]
theorem Le:isNull Z0:=⟨rfl,rfl,rfl,rfl,rfl⟩
theorem AeA {op z:Int} {x:List UInt8} (hop:op=3∨op=4∨op=5∨op=8) (hz:Jw z) (hx:isName x):Il (DU op z x)=0:=by
 refine ck0 ?_ (fun _=>hx) (fun _=>.inl Le)
 rintro(h|h|h|h|h|h)
 ·exact h (show 1≤op∧op≤8 by omega)
 ·exact h hz
 ·exact h.1 (show Oi op by unfold Oi;omega)
 ·exact h.2 Le
 ·have:op=6:=h.1
  omega
 ·exact h.2.elim (fun k=>k rfl) (fun k=>k rfl)
theorem AsP {op z:Int} {p:GP} (hop:op=5∨op=8) (hz:Jw z) (hx:isName p.key) (hv:DW p.v):Il ⟨op,z,0,0,p.key,p.v⟩=0:=by
 refine ck0 ?_ (fun _=>hx) (fun _=>.inr hv)
 rintro(h|h|h|h|h|h)
 ·exact h (show 1≤op∧op≤8 by omega)
 ·exact h hz
 ·exact h.1 (show Oi op by unfold Oi;omega)
 ·exact h.1 (show Un op by unfold Un;omega)
 ·have:op=6:=h.1
  omega
 ·exact h.2.elim (fun k=>k rfl) (fun k=>k rfl)
theorem Ahz {op z:Int} (hop:op=1∨op=2∨op=7) (hz:Jw z):Il (DU op z [])=0:=by
 refine ck0 ?_ (fun h=>?_) (fun _=>.inl Le)
 ·rintro(h|h|h|h|h|h)
  ·exact h (show 1≤op∧op≤8 by omega)
  ·exact h hz
  ·exact h.2 rfl
  ·exact h.2 Le
  ·have:op=6:=h.1
   omega
  ·exact h.2.elim (fun k=>k rfl) (fun k=>k rfl)
 ·have h:Oi op:=h
  unfold Oi at h
  omega
section
variable {g:GG} {c:GC}
theorem nG2 {n:GN} (h:c.op=2) (hf:lk GN.id g.nodes c.id=some n) (hx:¬∃e∈g.edges,e.fr=c.id∨e.to=c.id):Ba g c=(0,{g with nodes:=Cc BX GN.id c.id g.nodes}):=by
 unfold lk at hf;unfold Ba;rw[if_neg (by omega),hf];show(if c.op=2 then _ else _)=_;rw[if_pos h,if_neg hx]
theorem nG3 {n:GN} (h:c.op=3) (hf:lk GN.id g.nodes c.id=some n) (hx:c.name∉n.labels) (hl:n.labels.length<8):Ba g c=(0,{g with nodes:=A8 BX GN.id {n with ln:=true,labels:=A8 Op.bytesLess id c.name n.labels} g.nodes}):=by
 unfold lk at hf;unfold Ba;rw[if_neg (by omega),hf];show(if c.op=2 then _ else _)=_;rw[if_neg (by omega),if_pos h,if_neg hx,if_pos hl]
theorem nG4 {n:GN} (h:c.op=4) (hf:lk GN.id g.nodes c.id=some n) (hx:c.name∈n.labels):Ba g c=(0,{g with nodes:=A8 BX GN.id {n with ln:=true,labels:=Cc Op.bytesLess id c.name n.labels} g.nodes}):=by
 unfold lk at hf;unfold Ba;rw[if_neg (by omega),hf];show(if c.op=2 then _ else _)=_;rw[if_neg (by omega),if_neg (by omega),if_pos h,if_pos hx]
theorem Avw {n:GN} (h:c.op=5) (hf:lk GN.id g.nodes c.id=some n) (hx:isNull c.v):Ba g c=(0,{g with nodes:=A8 BX GN.id {n with props:=Cc Op.bytesLess GP.key c.name n.props} g.nodes}):=by
 unfold lk at hf;unfold Ba;rw[if_neg (by omega),hf];show(if c.op=2 then _ else _)=_;rw[if_neg (by omega),if_neg (by omega),if_neg (by omega),if_pos hx]
theorem nG5 {n:GN} (h:c.op=5) (hf:lk GN.id g.nodes c.id=some n) (hx:¬isNull c.v) (hl:(∃ p∈n.props,GP.key p=c.name)∨n.props.length<16):Ba g c=(0,{g with nodes:=A8 BX GN.id {n with pn:=true,props:=A8 Op.bytesLess GP.key ⟨c.name,c.v⟩ n.props} g.nodes}):=by
 unfold lk at hf;unfold Ba;rw[if_neg (by omega),hf];show(if c.op=2 then _ else _)=_;rw[if_neg (by omega),if_neg (by omega),if_neg (by omega),if_neg hx,if_pos hl]
theorem nG1 (h:c.op=1) (hx:¬∃n∈g.nodes,n.id=c.id) (hl:g.nodes.length<2000):Ba g c=(0,{g with nn:=true,nodes:=A8 BX GN.id ⟨c.id,false,[],false,[]⟩ g.nodes,BF:=if c.id+1>g.BF then c.id+1 else g.BF}):=by unfold Ba;rw[if_pos h,if_neg hx,if_pos hl]
theorem eG6 (h:c.op=6) (hx:¬∃n∈g.edges,n.id=c.id) (hn:(∃ n∈g.nodes,n.id=c.fr)∧(∃ n∈g.nodes,n.id=c.to)) (hl:g.edges.length<4000):BD g c=(0,{g with en:=true,edges:=A8 BX GE.id ⟨c.id,c.fr,c.to,c.name,false,[]⟩ g.edges,BA:=if c.id+1>g.BA then c.id+1 else g.BA}):=by unfold BD;rw[if_pos h,if_neg hx,if_pos hn,if_pos hl]
theorem eG7 {n:GE} (h:c.op=7) (hf:lk GE.id g.edges c.id=some n):BD g c=(0,{g with edges:=Cc BX GE.id c.id g.edges}):=by
 unfold lk at hf;unfold BD;rw[if_neg (by omega),hf];show(if c.op=7 then _ else _)=_;rw[if_pos h]
theorem Avx {n:GE} (h:c.op=8) (hf:lk GE.id g.edges c.id=some n) (hx:isNull c.v):BD g c=(0,{g with edges:=A8 BX GE.id {n with props:=Cc Op.bytesLess GP.key c.name n.props} g.edges}):=by
 unfold lk at hf;unfold BD;rw[if_neg (by omega),hf];show(if c.op=7 then _ else _)=_;rw[if_neg (by omega),if_pos hx]
theorem eG8 {n:GE} (h:c.op=8) (hf:lk GE.id g.edges c.id=some n) (hx:¬isNull c.v) (hl:(∃ p∈n.props,GP.key p=c.name)∨n.props.length<16):BD g c=(0,{g with edges:=A8 BX GE.id {n with pn:=true,props:=A8 Op.bytesLess GP.key ⟨c.name,c.v⟩ n.props} g.edges}):=by
 unfold lk at hf;unfold BD;rw[if_neg (by omega),hf];show(if c.op=7 then _ else _)=_;rw[if_neg (by omega),if_neg hx,if_pos hl]
end
theorem AeB {v:GV} (h:DW v):¬isNull v:=fun h2=>by
 have:=h2.1
 rcases h.2.2 with⟨a,_⟩|⟨a,_⟩|⟨a,_⟩<;>omega
theorem TY {h:GG} {c:GC} (h0:Il c=0) (h5:c.op≤5):stepG h c=Ba h c:=by unfold stepG;rw[if_neg (fun k=>k h0),if_pos h5]
theorem ZM {h:GG} {c:GC} (h0:Il c=0) (h5:¬c.op≤5):stepG h c=BD h c:=by unfold stepG;rw[if_neg (fun k=>k h0),if_neg h5]
structure AtN (h:GG) (z:Int) (m:GN) (f:Int→Option GN) (E:List GE):Prop where
 ask:Ef h
 here:lk GN.id h.nodes z=some m
 rest:∀y,y≠z→lk GN.id h.nodes y=f y
 ed:h.edges=E
theorem AtN.put {h:GG} {z:Int} {m m':GN} {f:Int→Option GN} {E:List GE} (a:AtN h z m f E) (hid:m'.id=z) (hn:YE m'):AtN {h with nodes:=A8 BX GN.id m' h.nodes} z m' f E where
 ask:=a.ask.Lu hn ⟨m,(EF a.here).1,by rw[hid];exact(EF a.here).2⟩
 here:=by show lk GN.id (A8 BX GN.id m' h.nodes) z=_;rw[OU Ak a.ask.iN,if_pos hid.symm]
 rest:=fun y hy=>by show lk GN.id (A8 BX GN.id m' h.nodes) y=_;rw[OU Ak a.ask.iN,if_neg (by rw[hid];exact hy)];exact a.rest y hy
 ed:=a.ed
theorem AtN.id {h:GG} {z:Int} {m:GN} {f:Int→Option GN} {E:List GE} (a:AtN h z m f E):m.id=z:=(EF a.here).2
theorem AtN.na {h:GG} {z:Int} {m:GN} {f:Int→Option GN} {E:List GE} (a:AtN h z m f E):YE m:=a.ask.aN m (EF a.here).1
section
variable {z:Int} {f:Int→Option GN} {E:List GE}
theorem Aiy (hz:Jw z):∀{D:List (List UInt8)} {h:GG} {m:GN},D.Nodup→(∀ x∈D,x∈m.labels)→(∀ x∈D,isName x)→AtN h z m f E→
 ∃h' m',FT h (D.map (DU 4 z))=some h'∧AtN h' z m' f E∧m'.props=m.props∧∀y,y∈m'.labels↔y∈m.labels∧y∉D
 |[],h,m,_,_,_,a=>⟨h,m,rfl,a,rfl,fun y=>by simp⟩
 |x::D,h,m,hD,hx,hn,a=>by
  have hD':=List.nodup_cons.1 hD
  have hn0:=a.na
  have h1:stepG h (DU 4 z x)=(0,{h with nodes:=A8 BX GN.id {m with ln:=true,labels:=Cc Op.bytesLess _root_.id x m.labels} h.nodes}):=by
   rw[TY (AeA (by omega) hz (hn x (by simp))) (show (4:Int)≤5 by decide)]
   exact nG4 (c:=DU 4 z x) rfl a.here (hx x (by simp))
  have a1:=a.put (m':={m with ln:=true,labels:=Cc Op.bytesLess _root_.id x m.labels}) a.id ⟨EJ Ai hn0.iL,Nat.le_trans (Dz Ai) hn0.lL,hn0.iP,hn0.lP⟩
  obtain⟨h',m',r,a',e,hm⟩:=Aiy hz (D:=D) hD'.2 (fun y hy=>(Na Ai).2 ⟨hx y (by simp[hy]),fun e=>hD'.1 (by cases e;exact hy)⟩) (fun y hy=>hn y (by simp[hy])) a1
  refine⟨h',m',Hg h1 r,a',e,fun y=>?_⟩
  rw[hm,Na Ai,List.mem_cons]
  constructor
  ·rintro⟨⟨q1,q2⟩,q3⟩;exact⟨q1,fun q=>q.elim q2 q3⟩
  ·rintro⟨q1,q2⟩;exact⟨⟨q1,fun q=>q2 (.inl q)⟩,fun q=>q2 (.inr q)⟩
theorem Aiz (hz:Jw z) {W:List (List UInt8)} (hW:W.length≤8):∀{D:List (List UInt8)} {h:GG} {m:GN},D.Nodup→(∀ x∈D,x∉m.labels)→(∀ x∈D,x∈W)→(∀ x∈m.labels,x∈W)→(∀ x∈D,isName x)→AtN h z m f E→
 ∃h' m',FT h (D.map (DU 3 z))=some h'∧AtN h' z m' f E∧m'.props=m.props∧∀y,y∈m'.labels↔y∈m.labels∨y∈D
 |[],h,m,_,_,_,_,_,a=>⟨h,m,rfl,a,rfl,fun y=>by simp⟩
 |x::D,h,m,hD,hx,hxW,hmW,hn,a=>by
  have hD':=List.nodup_cons.1 hD
  have hn0:=a.na
  have hlen:m.labels.length<8:=by
   have h2:m.labels.length<W.length:=AeC (NT Ai (by have:=EI hn0.iL;simpa using this)) hmW (hxW x (by simp)) (hx x (by simp))
   omega
  have h1:stepG h (DU 3 z x)=(0,{h with nodes:=A8 BX GN.id {m with ln:=true,labels:=A8 Op.bytesLess _root_.id x m.labels} h.nodes}):=by
   rw[TY (AeA (by omega) hz (hn x (by simp))) (show (3:Int)≤5 by decide)]
   exact nG3 (c:=DU 3 z x) rfl a.here (hx x (by simp)) hlen
  have a1:=a.put (m':={m with ln:=true,labels:=A8 Op.bytesLess _root_.id x m.labels}) a.id ⟨EK Ai hn0.iL,Nat.le_trans (EC Ai) (by omega),hn0.iP,hn0.lP⟩
  have hmem:∀y,y∈A8 Op.bytesLess _root_.id x m.labels↔y=x∨y∈m.labels:=fun y=>by
   rw[KT Ai]
   constructor
   ·rintro(h|h)
    ·exact .inl h
    ·exact .inr h.1
   ·rintro(h|h)
    ·exact .inl h
    ·exact .inr ⟨h,fun e=>hx x (by simp) (by cases e;exact h)⟩
  obtain⟨h',m',r,a',e,hm⟩:=Aiz hz hW (D:=D) hD'.2 (fun y hy hq=>by
        rcases(hmem y).1 hq with rfl|hq
        ·exact hD'.1 hy
        ·exact hx y (by simp[hy]) hq) (fun y hy=>hxW y (by simp[hy])) (fun y hy=>by
        rcases(hmem y).1 hy with rfl|hy
        ·exact hxW _ (by simp)
        ·exact hmW y hy) (fun y hy=>hn y (by simp[hy])) a1
  refine⟨h',m',Hg h1 r,a',e,fun y=>?_⟩
  rw[hm,hmem,List.mem_cons]
  constructor
  ·rintro((q|q)|q)
   ·exact .inr (.inl q)
   ·exact .inl q
   ·exact .inr (.inr q)
  ·rintro(q|q|q)
   ·exact .inl (.inr q)
   ·exact .inl (.inl q)
   ·exact .inr q
theorem AiA (hz:Jw z):∀{D:List (List UInt8)} {h:GG} {m:GN},(∀ x∈D,isName x)→AtN h z m f E→
 ∃h' m',FT h (D.map (DU 5 z))=some h'∧AtN h' z m' f E∧m'.labels=m.labels∧∀k,lk GP.key m'.props k=if k∈D then none else lk GP.key m.props k
 |[],h,m,_,a=>⟨h,m,rfl,a,rfl,fun y=>by simp⟩
 |x::D,h,m,hn,a=>by
  have hn0:=a.na
  have h1:stepG h (DU 5 z x)=(0,{h with nodes:=A8 BX GN.id {m with props:=Cc Op.bytesLess GP.key x m.props} h.nodes}):=by
   rw[TY (AeA (by omega) hz (hn x (by simp))) (show (5:Int)≤5 by decide)]
   exact Avw (c:=DU 5 z x) rfl a.here Le
  have a1:=a.put (m':={m with props:=Cc Op.bytesLess GP.key x m.props}) a.id ⟨hn0.iL,hn0.lL,EJ Ai hn0.iP,Nat.le_trans (Dz Ai) hn0.lP⟩
  obtain⟨h',m',r,a',e,hm⟩:=AiA hz (D:=D) (fun y hy=>hn y (by simp[hy])) a1
  refine⟨h',m',Hg h1 r,a',e,fun k=>?_⟩
  rw[hm]
  show(if k∈D then none else lk GP.key (Cc Op.bytesLess GP.key x m.props) k)=_
  rw[ZN Ai hn0.iP]
  by_cases q:k∈D
  ·rw[if_pos q,if_pos (by simp[q])]
  ·rw[if_neg q]
   by_cases q2:k=x
   ·rw[if_pos q2,if_pos (by simp[q2])]
   ·rw[if_neg q2,if_neg (by simp[q,q2])]
theorem AiB (hz:Jw z) {W:List (List UInt8)} (hW:W.length≤16):∀{D:List GP} {h:GG} {m:GN},(keysOf D).Nodup→(∀ p∈D,p.key∈W∧isName p.key∧DW p.v)→(∀ p∈m.props,p.key∈W)→AtN h z m f E→
 ∃h' m',FT h (D.map fun p=>⟨5,z,0,0,p.key,p.v⟩)=some h'∧AtN h' z m' f E∧m'.labels=m.labels∧∀k,lk GP.key m'.props k=(lk GP.key D k).or (lk GP.key m.props k)
 |[],h,m,_,_,_,a=>⟨h,m,rfl,a,rfl,fun y=>rfl⟩
 |p::D,h,m,hD,hp,hmW,a=>by
  have hD':=List.nodup_cons.1 hD
  have hn0:=a.na
  obtain⟨p1,p2,p3⟩:=hp p (by simp)
  have hfit:(∃ q∈m.props,GP.key q=p.key)∨m.props.length<16:=by
   by_cases hq:∃q∈m.props,GP.key q=p.key
   ·exact .inl hq
   ·have h2:(m.props.map GP.key).length<W.length:=AeC (NT Ai (EI hn0.iP)) (fun y hy=>by
       obtain⟨q,hq,rfl⟩:=List.mem_map.1 hy;exact hmW q hq) p1 (fun hy=>hq (by obtain⟨q,hq,e⟩:=List.mem_map.1 hy;exact⟨q,hq,e⟩))
    rw[List.length_map]at h2
    exact .inr (by omega)
  have h1:stepG h ⟨5,z,0,0,p.key,p.v⟩=(0,{h with nodes:=A8 BX GN.id {m with pn:=true,props:=A8 Op.bytesLess GP.key p m.props} h.nodes}):=by
   rw[TY (AsP (by omega) hz p2 p3) (show (5:Int)≤5 by decide)]
   exact nG5 (c:=⟨5,z,0,0,p.key,p.v⟩) rfl a.here (AeB p3) hfit
  have a1:=a.put (m':={m with pn:=true,props:=A8 Op.bytesLess GP.key p m.props}) a.id ⟨hn0.iL,hn0.lL,EK Ai hn0.iP,by
        rcases hfit with hx|hx
        ·exact Nat.le_trans (Io Ai hx) hn0.lP
        ·exact Nat.le_trans (EC Ai) (by omega)⟩
  obtain⟨h',m',r,a',e,hm⟩:=AiB hz hW (D:=D) hD'.2 (fun q hq=>hp q (by simp[hq])) (fun q hq=>by
        rcases(KT Ai).1 hq with rfl|hq
        ·exact p1
        ·exact hmW q hq.1) a1
  refine⟨h',m',Hg h1 r,a',e,fun k=>?_⟩
  rw[hm]
  show(lk GP.key D k).or (lk GP.key (A8 Op.bytesLess GP.key p m.props) k)=_
  rw[OU Ai hn0.iP]
  have e3:lk GP.key (p::D) k=if p.key=k then some p else lk GP.key D k:=by
   unfold lk
   rw[List.find?_cons]
   by_cases q:p.key=k
   ·rw[decide_eq_true q,if_pos q]
   ·rw[decide_eq_false q,if_neg q]
  rw[e3]
  by_cases q:p.key=k
  ·have e4:lk GP.key D k=none:=KE.2 fun y hy e=>hD'.1 (by rw[q,←e];exact List.mem_map_of_mem hy)
   rw[if_pos q,if_pos q.symm,e4];rfl
  ·rw[if_neg q,if_neg (fun e=>q e.symm)]
end
theorem Am4 {P Q was:List GP} (hP:Inc Op.bytesLess GP.key P) (hQ:Inc Op.bytesLess GP.key Q) (hpl:allPlain Q)
 (h:∀k,lk GP.key P k=(lk GP.key (Q.filter fun p=>decide (EL 12 (DX was p.key) p.v≠0)) k).or (if k∈keysOf was∧k∉keysOf Q then none else lk GP.key was k)):QI SP P Q:=by
 have hD:Inc Op.bytesLess GP.key (Q.filter fun p=>decide (EL 12 (DX was p.key) p.v≠0)):=hQ.filter _
 have hval:∀b∈Q,∃a∈P,a.key=b.key∧SP a b:=by
  intro b hb
  have hk:=h b.key
  by_cases hc:EL 12 (DX was b.key) b.v≠0
  ·have e1:lk GP.key (Q.filter fun p=>decide (EL 12 (DX was p.key) p.v≠0)) b.key=some b:=Di Ai hD (List.mem_filter.2 ⟨hb,decide_eq_true hc⟩) rfl
   rw[e1]at hk
   obtain⟨h1,h2⟩:=EF hk
   exact⟨b,h1,rfl,rfl,by have:=(PU 12).anti b.v b.v;omega⟩
  ·have hc:EL 12 (DX was b.key) b.v=0:=Classical.not_not.1 hc
   have e1:lk GP.key (Q.filter fun p=>decide (EL 12 (DX was p.key) p.v≠0)) b.key=none:=KE.2 fun y hy e=>by
        obtain⟨y1,y2⟩:=List.mem_filter.1 hy
        have:=Di Ai hQ y1 e
        rw[Di Ai hQ hb rfl]at this
        cases this
        exact(of_decide_eq_true y2) hc
   rw[e1,if_neg (fun h=>h.2 (List.mem_map_of_mem hb))]at hk
   have hk:lk GP.key P b.key=lk GP.key was b.key:=hk
   cases hw:lk GP.key was b.key with
   |none=>
    have:DX was b.key=Z0:=Aa2 fun hm=>by
     obtain⟨q,hq,e⟩:=List.mem_map.1 hm
     exact KE.1 hw q hq e
    rw[this]at hc
    exact absurd hc (Aa3 (hpl b hb))
   |some q=>
    rw[hw]at hk
    obtain⟨h1,h2⟩:=EF hk
    have:DX was b.key=q.v:=by unfold DX;rw[show was.find? (Zx b.key)=some q from hw]
    rw[this]at hc
    exact⟨q,h1,h2,h2,hc⟩
 refine Ac0 Ai hP hQ (fun a ha=>?_) (fun b hb=>?_)
 ·have hk:=h a.key
  rw[Di Ai hP ha rfl]at hk
  cases hd:lk GP.key (Q.filter fun p=>decide (EL 12 (DX was p.key) p.v≠0)) a.key with
  |some b=>
   rw[hd]at hk
   cases hk
   exact⟨a,(List.mem_filter.1 (EF hd).1).1,rfl,rfl,by have:=(PU 12).anti a.v a.v;omega⟩
  |none=>
   rw[hd]at hk
   have hk:some a=if a.key∈keysOf was∧a.key∉keysOf Q then none else lk GP.key was a.key:=hk
   split at hk
   ·cases hk
   rename_i hn
   have hw:=(EF hk.symm).1
   have hq:a.key∈keysOf Q:=Classical.not_not.1 fun h=>hn ⟨List.mem_map_of_mem hw,h⟩
   obtain⟨b,hb,e⟩:=List.mem_map.1 hq
   obtain⟨a',ha',e',hs⟩:=hval b hb
   have:a'=a:=by
        have h1:=Di Ai hP ha' rfl
        rw[e',e,Di Ai hP ha rfl]at h1
        cases h1;rfl
   subst this
   exact⟨b,hb,e'.symm,hs⟩
 ·obtain⟨a,ha,e,_⟩:=hval b hb
  exact⟨a,ha,e⟩
theorem AhE {h:GG} {z:Int} {m n w:GN} {f:Int→Option GN} {E:List GE} {N:List GN} (a:AtN h z m f E) (hn:VN n) (e:n.id=z) (hw:Fg N n=w) (h1:m.labels=w.labels) (h2:m.props=w.props) (hw1:allNames w.labels) (hw2:allNames (keysOf w.props)):
 ∃h' m',FT h (H9 N n)=some h'∧AtN h' z m' f E∧SN m' n:=by
 subst e
 unfold H9 AQ valuesL
 rw[hw,←h1,←h2]
 have hz:=hn.id
 have hnd:∀{l:List (List UInt8)},Inc Op.bytesLess _root_.id l→l.Nodup:=fun h=>NT Ai (by have:=EI h;simpa using this)
 have hm:=a.na
 obtain⟨k1,m1,r1,a1,e1,q1⟩:=Aiy hz (D:=m.labels.filter fun x=>decide (x∉n.labels)) ((hnd hm.iL).filter _) (fun x hx=>(List.mem_filter.1 hx).1) (fun x hx=>hw1 x (by rw[← h1];exact(List.mem_filter.1 hx).1)) a
 obtain⟨k2,m2,r2,a2,e2,q2⟩:=AiA hz (D:=(keysOf m.props).filter fun x=>decide (x∉keysOf n.props)) (fun x hx=>hw2 x (by rw[← h2];exact(List.mem_filter.1 hx).1)) a1
 have hl2:∀y,y∈m2.labels↔y∈m.labels∧y∈n.labels:=fun y=>by
  rw[e2,q1,List.mem_filter]
  constructor
  ·rintro⟨h,k⟩;exact⟨h,Classical.not_not.1 fun q=>k ⟨h,decide_eq_true q⟩⟩
  ·rintro⟨h,k⟩;exact⟨h,fun q=>of_decide_eq_true q.2 k⟩
 obtain⟨k3,m3,r3,a3,e3,q3⟩:=Aiz hz hn.a.lL (D:=n.labels.filter fun x=>decide (x∉m.labels)) ((hnd hn.a.iL).filter _) (fun x hx hq=>of_decide_eq_true (List.mem_filter.1 hx).2 ((hl2 x).1 hq).1) (fun x hx=>(List.mem_filter.1 hx).1) (fun x hx=>((hl2 x).1 hx).2) (fun x hx=>hn.nl x (List.mem_filter.1 hx).1) a2
 have hp2:∀k,lk GP.key m2.props k=if k∈keysOf m.props∧k∉keysOf n.props then none else lk GP.key m.props k:=fun k=>by
  rw[q2,e1]
  by_cases q:k∈keysOf m.props∧k∉keysOf n.props
  ·rw[if_pos q,if_pos (List.mem_filter.2 ⟨q.1,decide_eq_true q.2⟩)]
  ·rw[if_neg q,if_neg fun h=>q ⟨(List.mem_filter.1 h).1,of_decide_eq_true (List.mem_filter.1 h).2⟩]
 have hnk:(keysOf n.props).Nodup:=NT Ai (EI hn.a.iP)
 obtain⟨k4,m4,r4,a4,e4,q4⟩:=AiB hz (W:=keysOf n.props) (by unfold keysOf;rw[List.length_map];exact hn.a.lP) (D:=n.props.filter fun p=>decide (EL 12 (DX m.props p.key) p.v≠0)) (List.Nodup.sublist (List.filter_sublist.map _) hnk) (fun p hp=>by
  have hp:=(List.mem_filter.1 hp).1
  exact⟨List.mem_map_of_mem hp,hn.nk _ (List.mem_map_of_mem hp),hn.pl p hp⟩) (fun p hp=>by
  rw[e3]at hp
  have h3:=hp2 p.key
  rw[Di Ai a2.na.iP hp rfl]at h3
  split at h3
  ·cases h3
  rename_i hq
  have hpm:=(EF h3.symm).1
  exact Classical.not_not.1 fun h=>hq ⟨List.mem_map_of_mem hpm,h⟩) a3
 refine⟨k4,m4,Hq r1 (Hq r2 (Hq r3 r4)),a4,a4.id,?_,?_⟩
 ·refine Ac1 Ai (by have:=EI a4.na.iL;simpa using this) (by have:=EI hn.a.iL;simpa using this) fun y=>?_
  rw[e4,q3,hl2,List.mem_filter]
  constructor
  ·rintro(h|h)
   ·exact h.2
   ·exact h.1
  ·intro h
   by_cases q:y∈m.labels
   ·exact .inl ⟨q,h⟩
   ·exact .inr ⟨h,decide_eq_true q⟩
 ·refine Am4 (was:=m.props) a4.na.iP hn.a.iP hn.pl fun k=>?_
  rw[q4,e3,hp2]
structure AtE (h:GG) (z:Int) (m:GE) (f:Int→Option GE) (N:List GN):Prop where
 ask:Ef h
 here:lk GE.id h.edges z=some m
 rest:∀y,y≠z→lk GE.id h.edges y=f y
 nd:h.nodes=N
theorem AtE.put {h:GG} {z:Int} {m m':GE} {f:Int→Option GE} {N:List GN} (a:AtE h z m f N) (hid:m'.id=z) (hn:YF m'):AtE {h with edges:=A8 BX GE.id m' h.edges} z m' f N where
 ask:=a.ask.Tn hn ⟨m,(EF a.here).1,by rw[hid];exact(EF a.here).2⟩
 here:=by show lk GE.id (A8 BX GE.id m' h.edges) z=_;rw[OU Ak a.ask.iE,if_pos hid.symm]
 rest:=fun y hy=>by show lk GE.id (A8 BX GE.id m' h.edges) y=_;rw[OU Ak a.ask.iE,if_neg (by rw[hid];exact hy)];exact a.rest y hy
 nd:=a.nd
theorem AtE.id {h:GG} {z:Int} {m:GE} {f:Int→Option GE} {N:List GN} (a:AtE h z m f N):m.id=z:=(EF a.here).2
theorem AtE.na {h:GG} {z:Int} {m:GE} {f:Int→Option GE} {N:List GN} (a:AtE h z m f N):YF m:=a.ask.aE m (EF a.here).1
section
variable {z:Int} {f:Int→Option GE} {N:List GN}
theorem AjB (hz:Jw z):∀{D:List (List UInt8)} {h:GG} {m:GE},(∀ x∈D,isName x)→AtE h z m f N→
 ∃h' m',FT h (D.map (DU 8 z))=some h'∧AtE h' z m' f N∧(m'.fr=m.fr∧m'.to=m.to∧m'.ty=m.ty)∧∀k,lk GP.key m'.props k=if k∈D then none else lk GP.key m.props k
 |[],h,m,_,a=>⟨h,m,rfl,a,⟨rfl,rfl,rfl⟩,fun y=>by simp⟩
 |x::D,h,m,hn,a=>by
  have hn0:=a.na
  have h1:stepG h (DU 8 z x)=(0,{h with edges:=A8 BX GE.id {m with props:=Cc Op.bytesLess GP.key x m.props} h.edges}):=by
   rw[ZM (AeA (by omega) hz (hn x (by simp))) (show ¬(8:Int)≤5 by decide)]
   exact Avx (c:=DU 8 z x) rfl a.here Le
  have a1:=a.put (m':={m with props:=Cc Op.bytesLess GP.key x m.props}) a.id ⟨EJ Ai hn0.iP,Nat.le_trans (Dz Ai) hn0.lP⟩
  obtain⟨h',m',r,a',e,hm⟩:=AjB hz (D:=D) (fun y hy=>hn y (by simp[hy])) a1
  refine⟨h',m',Hg h1 r,a',e,fun k=>?_⟩
  rw[hm]
  show(if k∈D then none else lk GP.key (Cc Op.bytesLess GP.key x m.props) k)=_
  rw[ZN Ai hn0.iP]
  by_cases q:k∈D
  ·rw[if_pos q,if_pos (by simp[q])]
  ·rw[if_neg q]
   by_cases q2:k=x
   ·rw[if_pos q2,if_pos (by simp[q2])]
   ·rw[if_neg q2,if_neg (by simp[q,q2])]
theorem AjC (hz:Jw z) {W:List (List UInt8)} (hW:W.length≤16):∀{D:List GP} {h:GG} {m:GE},(keysOf D).Nodup→(∀ p∈D,p.key∈W∧isName p.key∧DW p.v)→(∀ p∈m.props,p.key∈W)→AtE h z m f N→
 ∃h' m',FT h (D.map fun p=>⟨8,z,0,0,p.key,p.v⟩)=some h'∧AtE h' z m' f N∧(m'.fr=m.fr∧m'.to=m.to∧m'.ty=m.ty)∧∀k,lk GP.key m'.props k=(lk GP.key D k).or (lk GP.key m.props k)
 |[],h,m,_,_,_,a=>⟨h,m,rfl,a,⟨rfl,rfl,rfl⟩,fun y=>rfl⟩
 |p::D,h,m,hD,hp,hmW,a=>by
  have hD':=List.nodup_cons.1 hD
  have hn0:=a.na
  obtain⟨p1,p2,p3⟩:=hp p (by simp)
  have hfit:(∃ q∈m.props,GP.key q=p.key)∨m.props.length<16:=by
   by_cases hq:∃q∈m.props,GP.key q=p.key
   ·exact .inl hq
   ·have h2:(m.props.map GP.key).length<W.length:=AeC (NT Ai (EI hn0.iP)) (fun y hy=>by
       obtain⟨q,hq,rfl⟩:=List.mem_map.1 hy;exact hmW q hq) p1 (fun hy=>hq (by obtain⟨q,hq,e⟩:=List.mem_map.1 hy;exact⟨q,hq,e⟩))
    rw[List.length_map]at h2
    exact .inr (by omega)
  have h1:stepG h ⟨8,z,0,0,p.key,p.v⟩=(0,{h with edges:=A8 BX GE.id {m with pn:=true,props:=A8 Op.bytesLess GP.key p m.props} h.edges}):=by
   rw[ZM (AsP (by omega) hz p2 p3) (show ¬(8:Int)≤5 by decide)]
   exact eG8 (c:=⟨8,z,0,0,p.key,p.v⟩) rfl a.here (AeB p3) hfit
  have a1:=a.put (m':={m with pn:=true,props:=A8 Op.bytesLess GP.key p m.props}) a.id ⟨EK Ai hn0.iP,by
        rcases hfit with hx|hx
        ·exact Nat.le_trans (Io Ai hx) hn0.lP
        ·exact Nat.le_trans (EC Ai) (by omega)⟩
  obtain⟨h',m',r,a',e,hm⟩:=AjC hz hW (D:=D) hD'.2 (fun q hq=>hp q (by simp[hq])) (fun q hq=>by
        rcases(KT Ai).1 hq with rfl|hq
        ·exact p1
        ·exact hmW q hq.1) a1
  refine⟨h',m',Hg h1 r,a',e,fun k=>?_⟩
  rw[hm]
  show(lk GP.key D k).or (lk GP.key (A8 Op.bytesLess GP.key p m.props) k)=_
  rw[OU Ai hn0.iP]
  have e3:lk GP.key (p::D) k=if p.key=k then some p else lk GP.key D k:=by
   unfold lk
   rw[List.find?_cons]
   by_cases q:p.key=k
   ·rw[decide_eq_true q,if_pos q]
   ·rw[decide_eq_false q,if_neg q]
  rw[e3]
  by_cases q:p.key=k
  ·have e4:lk GP.key D k=none:=KE.2 fun y hy e=>hD'.1 (by rw[q,←e];exact List.mem_map_of_mem hy)
   rw[if_pos q,if_pos q.symm,e4];rfl
  ·rw[if_neg q,if_neg (fun e=>q e.symm)]
end
theorem AhF {h:GG} {z:Int} {m n:GE} {f:Int→Option GE} {N:List GN} {E:List GE} {w:List GP} (a:AtE h z m f N) (hn:VE n) (e:n.id=z) (hw:KO E n=w) (h1:m.fr=n.fr∧m.to=n.to∧m.ty=n.ty) (h2:m.props=w) (hw2:allNames (keysOf w)):
 ∃h' m',FT h (D8 E n)=some h'∧AtE h' z m' f N∧SE m' n:=by
 subst e
 unfold D8 AQ valuesL
 rw[hw,←h2]
 have hz:=hn.id
 obtain⟨k2,m2,r2,a2,e2,q2⟩:=AjB hz (D:=(keysOf m.props).filter fun x=>decide (x∉keysOf n.props)) (fun x hx=>hw2 x (by rw[← h2];exact(List.mem_filter.1 hx).1)) a
 have hp2:∀k,lk GP.key m2.props k=if k∈keysOf m.props∧k∉keysOf n.props then none else lk GP.key m.props k:=fun k=>by
  rw[q2]
  by_cases q:k∈keysOf m.props∧k∉keysOf n.props
  ·rw[if_pos q,if_pos (List.mem_filter.2 ⟨q.1,decide_eq_true q.2⟩)]
  ·rw[if_neg q,if_neg fun h=>q ⟨(List.mem_filter.1 h).1,of_decide_eq_true (List.mem_filter.1 h).2⟩]
 have hnk:(keysOf n.props).Nodup:=NT Ai (EI hn.a.iP)
 obtain⟨k4,m4,r4,a4,e4,q4⟩:=AjC hz (W:=keysOf n.props) (by unfold keysOf;rw[List.length_map];exact hn.a.lP) (D:=n.props.filter fun p=>decide (EL 12 (DX m.props p.key) p.v≠0)) (List.Nodup.sublist (List.filter_sublist.map _) hnk) (fun p hp=>by
  have hp:=(List.mem_filter.1 hp).1
  exact⟨List.mem_map_of_mem hp,hn.nk _ (List.mem_map_of_mem hp),hn.pl p hp⟩) (fun p hp=>by
  have h3:=hp2 p.key
  rw[Di Ai a2.na.iP hp rfl]at h3
  split at h3
  ·cases h3
  rename_i hq
  have hpm:=(EF h3.symm).1
  exact Classical.not_not.1 fun h=>hq ⟨List.mem_map_of_mem hpm,h⟩) a2
 refine⟨k4,m4,Hq r2 r4,a4,a4.id,by rw[e4.1,e2.1,h1.1],by rw[e4.2.1,e2.2.1,h1.2.1],by rw[e4.2.2,e2.2.2,h1.2.2],?_⟩
 exact Am4 (was:=m.props) a4.na.iP hn.a.iP hn.pl fun k=>by rw[q4,hp2]
end AI
end Go.Proofs.YthnehejdkajjhaaGreatDoor
