/- A checked graph is one that an editor may edit; change.ApplyAll. -/
import Derived.Test.YthnehejdkajjhaaGreatDoorUMap
import Derived.Test.YthnehejdkajjhaaGreatDoorUCk6
set_option linter.unusedVariables false
set_option maxRecDepth 4000
namespace Go.Proofs.YthnehejdkajjhaaGreatDoor
namespace AI
theorem Aam {α κ:Type} {lt:κ→κ→Bool} {key:α→κ} (hs:Ov lt) {l:List α} (h:∀j (hj:j+1<l.length),lt (key l[j]) (key l[j+1])=true):Inc lt key l:=by
 refine List.pairwise_iff_getElem.2 fun i j hi hj hij=>?_
 obtain⟨d,rfl⟩:∃d,j=i+1+d:=⟨j-(i+1),by omega⟩
 clear hij
 induction d with
 |zero=>exact h i hj
 |succ d ih=>exact hs.tr _ _ _ (ih (by omega)) (h (i+1+d) (by omega))
theorem Y3 {l:List (List UInt8)} (h:rises l):Inc Op.bytesLess id l:=by
 refine Aam Ai fun j hj=>?_
 have:=h j hj
 simp only[Bool.or_eq_false_iff,beq_eq_false_iff_ne]at this
 cases hb:Op.bytesLess (id l[j]) (id l[j+1])with
 |true=>rfl
 |false=>exact absurd (Ai.tot _ _ this.1 hb) this.2
theorem Sv {L:List (List UInt8)} {P:List GP} (h:DV L P=0):L.length≤8∧P.length≤16∧rises L∧rises (keysOf P)∧allNames L∧allNames (keysOf P)∧allPlain P:=by
 by_cases h1:8<L.length∨16<P.length
 ·have:=PD h1;rw[h]at this;simp at this
 by_cases h2:allNames L∧allNames (keysOf P)
 case neg=>have:=PE h1 h2;rw[h]at this;simp at this
 by_cases h3:rises L∧rises (keysOf P)
 case neg=>have:=Md h1 h2 h3;rw[h]at this;simp at this
 by_cases h4:allPlain P
 case neg=>have:=Vh h1 h2 h3 h4;rw[h]at this;simp at this
 exact⟨by omega,by omega,h3.1,h3.2,h2.1,h2.2,h4⟩
theorem Ab0 {P:List GP} (h:rises (keysOf P)):Inc Op.bytesLess GP.key P:=by
 have:=Y3 h
 unfold Inc keysOf at this
 rw[List.pairwise_map]at this
 exact this
theorem Td {g:GG} (h:AZ g=0):Ef g:=by
 obtain⟨hf,hn,hN,hE⟩:=LU h
 refine⟨hf.1,hf.2,Aam Ak fun j hj=>?_,Aam Ak fun j hj=>?_,fun n hm=>?_,fun n hm=>?_,?_,?_⟩
 ·have:=(KP hj (hN _ hj)).1 (by omega)
  simpa[BX]using this
 ·have:=(MZ hj (hE _ hj)).1 (by omega)
  simpa[BX]using this
 ·obtain⟨i,hi,rfl⟩:=List.getElem_of_mem hm
  obtain⟨a1,a2,a3,a4,_⟩:=Sv (KP hi (hN i hi)).2.2.2
  exact⟨Y3 a3,a1,Ab0 a4,a2⟩
 ·obtain⟨i,hi,rfl⟩:=List.getElem_of_mem hm
  obtain⟨a1,a2,a3,a4,_⟩:=Sv (MZ hi (hE i hi)).2.2.2.2.2.2
  exact⟨Ab0 a4,a2⟩
 ·have:=hn.1;have:=hn.2.1;omega
 ·have:=hn.2.2.1;have:=hn.2.2.2;omega
theorem ApE {g:GG} (hg:g.ok) (h:AZ g=0):Few g:=by
 have ha:=Td h
 exact⟨hg,ha.lN,ha.lE,fun n hn=>⟨(ha.aN n hn).lL,(ha.aN n hn).lP⟩,fun n hn=>(ha.aE n hn).lP⟩
noncomputable def AX (g:GG) (L:List GC):GG×Nat×Int:=if AZ g≠0 then(EP,0,AZ g)else Jl g L 0
theorem Cp.ed {σ0 σ σ':List Obj} {oN uN nN oE uE nE gd:Nat} {g:GG} {N:List EN} {E:List EE} (h:Cp σ0 σ (.own oN uN 0 nN) (.own oE uE 0 nE) g N E) (hf:Fr σ σ' []) (hb:nth σ' σ.length=some (.arr gd 4 true false [.agg [.own oN uN 0 nN,.own oE uE 0 nE,.int .i64 g.BF,.int .i64 g.BA]])):EdG σ' σ.length gd g:=by
 obtain⟨cn,hn1,hn2⟩:=h.hn
 obtain⟨ce,he1,he2⟩:=h.he
 refine⟨_,_,g.nn,g.en,N,E,g.BF,g.BA,⟨hb,⟨cn,hn1.keep fun o ho=>hf.eq o (hn1.lt o ho) (by simp),hn2⟩,⟨ce,he1.keep fun o ho=>hf.eq o (he1.lt o ho) (by simp),he2⟩,
  fun e he=>(h.hN e he).keep fun o ho=>hf.eq o ((h.hN e he).lt o ho) (by simp),fun e he=>(h.hE e he).keep fun o ho=>hf.eq o ((h.hE e he).lt o ho) (by simp),
  List.nodup_cons.2 ⟨fun hm=>?_,h.nd⟩,by simp,by simp⟩,?_⟩
 ·have hlt:σ.length<σ.length:=by
   rcases List.mem_append.1 hm with hm|hm
   ·exact hn1.lt _ hm
   rcases List.mem_append.1 hm with hm|hm
   ·exact he1.lt _ hm
   rcases List.mem_append.1 hm with hm|hm<;>obtain⟨e,he,hm⟩:=List.mem_flatMap.1 hm
   ·exact(h.hN e he).lt _ hm
   ·exact(h.hE e he).lt _ hm
  omega
 ·obtain⟨a,b,c,d,e,f⟩:=g
  have h1:=h.mN
  have h2:=h.mE
  simp only[LP]at*
  rw[h1,h2]
theorem ApF {σ:List Obj} {o g c':Nat} {nn cl:Bool} {a b c d x y:AV} (ha:a.cells.length=1) (hb:b.cells.length=1) (h:nth σ o=some (.arr g 4 nn cl [.agg [a,b,c,d]])):FP [(4,.ref o g 0 0),(5,x),(6,y)] ⟨σ,c'⟩ a12.results=some [.agg [a,b,c,d],x,y]:=by
 show(match I7 [(4,.ref o g 0 0),(5,x),(6,y)] ⟨σ,c'⟩ (.cell 4 (some 4)),FP [(4,.ref o g 0 0),(5,x),(6,y)] ⟨σ,c'⟩ [.tmp 5,.tmp 6]with
  |some v,some vs=>some (v::vs)
  |_,_=>none)=_
 have e:I7 [(4,.ref o g 0 0),(5,x),(6,y)] ⟨σ,c'⟩ (.cell 4 (some 4))=some (.agg [a,b,c,d]):=by
  simp[I7,Env.get,h,nth,AV.cells,loadCells]
 rw[e]
 rfl
theorem Ajg {AP:Nat→Option Jc} {f:Nat} {fn:Jr} {args:List AV} {R:AV→Prop} (hf:AP f=some (.code fn)) (hl:args.length=fn.np) (h:vC AP fn.body (params args 0) ⟨[],0⟩ (Aa0 fn fun out s'=>∃r v,out=.ok r∧snap s'.σ F5 r=some v∧R v)):Ag AP f args R:=by
 obtain⟨N,out,s',h1,r,v,rfl,h3,h4⟩:=Xp hf hl (KH h)
 exact⟨v,⟨N,by simp only[Fb,h1];exact h3⟩,h4⟩
theorem Rd.BG {σ:List Obj} {D:Nat} {xs ys:List AV} (h:MJ σ D xs ys):Rd σ (D+1) (.BG xs) (.BG ys):=fun m hm=>by
 obtain⟨m,rfl⟩:∃m',m=m'+1:=⟨m-1,by omega⟩
 simp only[snap,h m (by omega),Option.map_some]
theorem Rd.sl {σ:List Obj} {b:Bool} {xs:List AV}:Rd σ 1 (.sl b xs) (.sl b xs):=fun m hm=>by
 obtain⟨m,rfl⟩:∃m',m=m'+1:=⟨m-1,by omega⟩
 rfl
theorem Aan {σ:List Obj}:Rd σ 10 (.agg [.sl false [],.sl false [],.int .i64 0,.int .i64 0]) EP.av:=
 (Rd.agg (MJ.cons (Rd.sl.mono (D':=5) (by omega)) (MJ.cons (Rd.sl.mono (D':=4) (by omega)) (MJ.cons (Rd.int.mono (D':=3) (by omega)) (MJ.cons (Rd.int.mono (D':=2) (by omega)) (MJ.nil.mono (by omega))))))).mono (by omega)
theorem rd3 {σ:List Obj} {D:Nat} {a b:AV} {x y:Int} (h:Rd σ D a b) (hD:D≤999000):snap σ F5 (.BG [a,.int .i64 x,.int .i64 y])=some (.BG [b,.int .i64 x,.int .i64 y]):=
 (Rd.BG (MJ.cons (h.mono (D':=D+3) (by omega)) (MJ.cons (Rd.int.mono (D':=D+2) (by omega)) (MJ.cons (Rd.int.mono (D':=D+1) (by omega)) (MJ.nil.mono (by omega)))))) F5 (by unfold F5;omega)
theorem Hd.Anb {α:Type} {f:α→AV} {es:Nat} {σ:List Obj} {v:AV} {b c:Bool} {l:List α} (h:Hd f es σ v b l c) (h0:v≠.sl false []):∃o g n,v=.own o g 0 n:=by
 rcases h with⟨_,_,rfl|⟨o',g,es',rfl,h⟩⟩|⟨_,o',g,rfl,h⟩
 ·exact absurd rfl h0
 ·exact⟨_,_,_,rfl⟩
 ·exact⟨_,_,_,rfl⟩
set_option maxHeartbeats 4000000 in
theorem J5 {g:GG} {L:List GC} {nn:Bool} (hg:g.ok) (hL:L.length<2 ^ 62) (hok:∀c∈L,c.ok):
 Ag (Ac tab) 12 [g.av,.sl nn (vs GC.av L)] (· =.BG [(AX g L).1.av,.int .i64 (AX g L).2.1,.int .i64 (AX g L).2.2]):=by
 have hck:=VI hg
 refine Ajg rfl rfl ?_
 show vC _ _ [(0,.agg [.sl g.nn (vs GN.av g.nodes),.sl g.en (vs GE.av g.edges),.int .i64 g.BF,.int .i64 g.BA]),(1,.sl nn (vs GC.av L))] _ _
 by_cases h0:AZ g=0
 ·have ha:=Td h0
  have hfw:=ApE hg h0
  have hlL:(vs GC.av L).length=L.length:=lV _
  rw[h0]at hck
  (conv=>whnf);repeat' (first|(refine Aa hck ?_;rintro _ rfl;conv=>whnf)|(refine Akm hfw fun σ' c' oN uN nN oE uE nE N E hcp=>?_;conv=>whnf)|(refine kA ?_;conv=>whnf)|(refine Br.mk (fun hc=>?_) fun hc=>?_<;>first|exact hc.elim|conv=>whnf)|(refine kB ?_))
  have hz:=hcp.fr.get (o:=1) rfl (by simp)
  refine Dh fun σ1 f1 h1 l1=>?_
  have hz1:=f1.get hz (by simp)
  have hzl:=Dc hz
  (conv=>whnf);repeat' (first|(rw [h1];conv=>whnf)|(refine (Eb _ _).2 ?_;conv=>whnf)|(refine F7 h1 fun σ2 f2 h2 l2=>?_;conv=>whnf)|(refine kA ?_;conv=>whnf)|(refine Br.mk (fun hc=>?_) fun hc=>?_<;>first|exact hc.elim|conv=>whnf)|(refine kB ?_))
  have f02:Fr σ' σ2 []:=((f1.mono (F':=[σ'.length]) (by simp)).trans f2).mono (by simp)
  have hz2:=f02.get hz (by simp)
  have hEd:=hcp.ed f02 h2
  refine AlT hL hok hEd ha hz2 (fun σ3 c3 i e hr hz3=>?_) (fun σ3 c3 h tl hr hE3 ha3 hz3=>?_)
  ·have hR:AX g L=(EP,i,e):=by unfold AX;rw[if_neg (fun h=>h h0),hr]
   rw[hR]
   conv=>whnf
   exact⟨_,ApF rfl rfl hz3,_,_,rfl,rd3 Aan (by omega),rfl⟩
  ·have hR:AX g L=(h,L.length,0):=by unfold AX;rw[if_neg (fun h=>h h0),hr]
   rw[hR]
   obtain⟨vN,vE,nb,eb,N3,E3,x,y,Adj,hgo⟩:=hE3
   obtain⟨cn,hn1,_⟩:=Adj.hn
   obtain⟨ce,he1,_⟩:=Adj.he
   obtain⟨o1,u1,k1,rfl⟩:=hn1.Anb Adj.oN
   obtain⟨o2,u2,k2,rfl⟩:=he1.Anb Adj.oE
   have hb3:=Adj.box
   have hnz:=Adj.AeL hz3
   subst hgo
   have hq:=ha3.ask
   have hlN:=hq.lN
   have hlE:=hq.lE
   (conv=>whnf);repeat' (first|(rw [hb3];conv=>whnf)|(rw [hz3];conv=>whnf)|(refine (Eb _ _).2 ?_;conv=>whnf)|(refine F7 hz3 fun σ4 f4 h4 l4=>?_;conv=>whnf)|(refine kA ?_;conv=>whnf)|(refine Br.mk (fun hc=>?_) fun hc=>?_<;>first|exact hc.elim|conv=>whnf)|(refine kB ?_))
   have hE4:=Adj.fr f4 (fun o ho hm=>hnz (by simp only[List.mem_singleton]at hm;subst hm;exact ho))
   exact⟨_,ApF rfl rfl h4,_,_,rfl,rd3 hE4.snG (by omega),rfl⟩
 ·have hR:AX g L=(EP,0,AZ g):=by unfold AX;rw[if_pos h0]
  rw[hR]
  (conv=>whnf);repeat' (first|(refine Aa hck ?_;rintro _ rfl;conv=>whnf)|(refine kA ?_;conv=>whnf)|(refine Br.mk (fun hc=>?_) fun hc=>?_<;>first|exact hc.elim|conv=>whnf)|(refine kB ?_))
  all_goals first|(exfalso;omega)|exact⟨_,ApF rfl rfl rfl,_,_,rfl,rd3 Aan (by omega),rfl⟩|exact⟨_,_,rfl,rd3 Aan (by omega),rfl⟩
end AI
end Go.Proofs.YthnehejdkajjhaaGreatDoor
