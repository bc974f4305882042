/- A checked graph is one that an editor may edit; change.ApplyAll. Changes in a row; the changes of one node by a script: plain. What a check finds, said in one; a step keeps graphs valid: plain. A step keeps graphs in good form; their lengths: plain. The reference's Steps answers. One more at the end of a list that is put into: what a reference's loop does, step by step. The reference puts nodes into a graph, exactly. The reference: lists of labels with one more, one less. The reference's null, lists of properties and labels. The reference sets a property, exactly. Taking out, at the end of a list. The reference takes a property away (set to null), exactly. The reference: lists of labels with one more, one less, exactly. Graphs up to the difference between no list and an empty one; a step does not see it. The reference's HasLabel. -/
import Derived.Test.YtgmgkkbpgndaaaaGreatDoorPMal
import Derived.Test.YtgmgkkbpgndaaaaGreatDoorPMag
import Derived.Test.YtgmgkkbpgndaaaaGreatDoorPMah
import Derived.Test.YtgmgkkbpgndaaaaGreatDoorPMai
import Derived.Test.YtgmgkkbpgndaaaaGreatDoorPMaf
set_option linter.unusedVariables false
set_option maxRecDepth 4000
namespace Go.Proofs.YtgmgkkbpgndaaaaGreatDoor
namespace AI
theorem UL {α κ:Type} {lt:κ→κ→Bool} {key:α→κ} (hs:MH lt) {l:List α} (h:∀j (hj:j+1<l.length),lt (key l[j]) (key l[j+1])=true):Inc lt key l:=by
 refine List.pairwise_iff_getElem.2 fun i j hi hj hij=>?_
 obtain⟨d,rfl⟩:∃d,j=i+1+d:=⟨j-(i+1),by omega⟩
 clear hij
 induction d with
 |zero=>exact h i hj
 |succ d ih=>exact hs.tr _ _ _ (ih (by omega)) (h (i+1+d) (by omega))
theorem TK {l:List (List UInt8)} (h:rises l):Inc Op.bytesLess id l:=by
 refine UL Ah fun j hj=>?_
 have:=h j hj
 simp only[Bool.or_eq_false_iff,beq_eq_false_iff_ne]at this
 cases hb:Op.bytesLess (id l[j]) (id l[j+1])with
 |true=>rfl
 |false=>exact absurd (Ah.tot _ _ this.1 hb) this.2
theorem Nv {L:List (List UInt8)} {P:List GP} (h:Dt L P=0):L.length≤8∧P.length≤16∧rises L∧rises (keysOf P)∧allNames L∧allNames (keysOf P)∧allPlain P:=by
 by_cases h1:8<L.length∨16<P.length
 ·have:=Nw h1;rw[h]at this;simp at this
 by_cases h2:allNames L∧allNames (keysOf P)
 case neg=>have:=Ny h1 h2;rw[h]at this;simp at this
 by_cases h3:rises L∧rises (keysOf P)
 case neg=>have:=KH h1 h2 h3;rw[h]at this;simp at this
 by_cases h4:allPlain P
 case neg=>have:=UM h1 h2 h3 h4;rw[h]at this;simp at this
 exact⟨by omega,by omega,h3.1,h3.2,h2.1,h2.2,h4⟩
theorem VY {P:List GP} (h:rises (keysOf P)):Inc Op.bytesLess GP.key P:=by
 have:=TK h
 unfold Inc keysOf at this
 rw[List.pairwise_map]at this
 exact this
theorem QN {g:GG} (h:Ba g=0):FY g:=by
 obtain⟨hf,hn,hN,hE⟩:=ER h
 refine⟨hf.1,hf.2,UL Aj fun j hj=>?_,UL Aj fun j hj=>?_,fun n hm=>?_,fun n hm=>?_,?_,?_⟩
 ·have:=(IZ hj (hN _ hj)).1 (by omega)
  simpa[BU]using this
 ·have:=(I4 hj (hE _ hj)).1 (by omega)
  simpa[BU]using this
 ·obtain⟨i,hi,rfl⟩:=List.getElem_of_mem hm
  obtain⟨a1,a2,a3,a4,_⟩:=Nv (IZ hi (hN i hi)).2.2.2
  exact⟨TK a3,a1,VY a4,a2⟩
 ·obtain⟨i,hi,rfl⟩:=List.getElem_of_mem hm
  obtain⟨a1,a2,a3,a4,_⟩:=Nv (I4 hi (hE i hi)).2.2.2.2.2.2
  exact⟨VY a4,a2⟩
 ·have:=hn.1;have:=hn.2.1;omega
 ·have:=hn.2.2.1;have:=hn.2.2.2;omega
theorem AfM {g:GG} (hg:g.ok) (h:Ba g=0):Few g:=by
 have ha:=QN h
 exact⟨hg,ha.lN,ha.lE,fun n hn=>⟨(ha.aN n hn).lL,(ha.aN n hn).lP⟩,fun n hn=>(ha.aE n hn).lP⟩
noncomputable def Dw (g:GG) (L:List GC):GG×Nat×Int:=if Ba g≠0 then(FD,0,Ba g)else VZ g L 0
theorem Cp.ed {σ0 σ σ':List Obj} {oN uN nN oE uE nE gd:Nat} {g:GG} {N:List EN} {E:List EE} (h:Cp σ0 σ (.own oN uN 0 nN) (.own oE uE 0 nE) g N E) (hf:Fr σ σ' []) (hb:nth σ' σ.length=some (.arr gd 4 true false [.agg [.own oN uN 0 nN,.own oE uE 0 nE,.int .i64 g.Bl,.int .i64 g.Bq]])):EdG σ' σ.length gd g:=by
 obtain⟨cn,hn1,hn2⟩:=h.hn
 obtain⟨ce,he1,he2⟩:=h.he
 refine⟨_,_,g.nn,g.en,N,E,g.Bl,g.Bq,⟨hb,⟨cn,hn1.keep fun o ho=>hf.eq o (hn1.lt o ho) (by simp),hn2⟩,⟨ce,he1.keep fun o ho=>hf.eq o (he1.lt o ho) (by simp),he2⟩,
  fun e he=>(h.hN e he).keep fun o ho=>hf.eq o ((h.hN e he).lt o ho) (by simp),fun e he=>(h.hE e he).keep fun o ho=>hf.eq o ((h.hE e he).lt o ho) (by simp),
  List.nodup_cons.2 ⟨fun hm=>?_,h.nd⟩,by simp,by simp⟩,?_⟩
 ·have hlt:σ.length<σ.length:=by
   rcases List.mem_append.1 hm with hm|hm
   ·exact hn1.lt _ hm
   rcases List.mem_append.1 hm with hm|hm
   ·exact he1.lt _ hm
   rcases List.mem_append.1 hm with hm|hm<;>obtain⟨e,he,hm⟩:=List.mem_flatMap.1 hm
   ·exact(h.hN e he).lt _ hm
   ·exact(h.hE e he).lt _ hm
  omega
 ·obtain⟨a,b,c,d,e,f⟩:=g
  have h1:=h.mN
  have h2:=h.mE
  simp only[Jk]at*
  rw[h1,h2]
theorem AfN {σ:List Obj} {o g c':Nat} {nn cl:Bool} {a b c d x y:AV} (ha:a.cells.length=1) (hb:b.cells.length=1) (h:nth σ o=some (.arr g 4 nn cl [.agg [a,b,c,d]])):Ej [(4,.ref o g 0 0),(5,x),(6,y)] ⟨σ,c'⟩ a37.results=some [.agg [a,b,c,d],x,y]:=by
 show(match Gz [(4,.ref o g 0 0),(5,x),(6,y)] ⟨σ,c'⟩ (.cell 4 (some 4)),Ej [(4,.ref o g 0 0),(5,x),(6,y)] ⟨σ,c'⟩ [.tmp 5,.tmp 6]with
  |some v,some vs=>some (v::vs)
  |_,_=>none)=_
 have e:Gz [(4,.ref o g 0 0),(5,x),(6,y)] ⟨σ,c'⟩ (.cell 4 (some 4))=some (.agg [a,b,c,d]):=by
  simp[Gz,Env.get,h,nth,AV.cells,loadCells]
 rw[e]
 rfl
theorem Abv {AP:Nat→Option H7} {f:Nat} {fn:Hf} {args:List AV} {R:AV→Prop} (hf:AP f=some (.code fn)) (hl:args.length=fn.np) (h:vC AP fn.body (params args 0) ⟨[],0⟩ (AdH fn fun out s'=>∃r v,out=.ok r∧snap s'.σ EC r=some v∧R v)):Af AP f args R:=by
 obtain⟨N,out,s',h1,r,v,rfl,h3,h4⟩:=QO hf hl (Jm h)
 exact⟨v,⟨N,by simp only[Ew,h1];exact h3⟩,h4⟩
theorem Rd.Cc {σ:List Obj} {D:Nat} {xs ys:List AV} (h:Jo σ D xs ys):Rd σ (D+1) (.Cc xs) (.Cc ys):=fun m hm=>by
 obtain⟨m,rfl⟩:∃m',m=m'+1:=⟨m-1,by omega⟩
 simp only[snap,h m (by omega),Option.map_some]
theorem Rd.sl {σ:List Obj} {b:Bool} {xs:List AV}:Rd σ 1 (.sl b xs) (.sl b xs):=fun m hm=>by
 obtain⟨m,rfl⟩:∃m',m=m'+1:=⟨m-1,by omega⟩
 rfl
theorem UN {σ:List Obj}:Rd σ 10 (.agg [.sl false [],.sl false [],.int .i64 0,.int .i64 0]) FD.av:=
 (Rd.agg (Jo.cons (Rd.sl.mono (D':=5) (by omega)) (Jo.cons (Rd.sl.mono (D':=4) (by omega)) (Jo.cons (Rd.int.mono (D':=3) (by omega)) (Jo.cons (Rd.int.mono (D':=2) (by omega)) (Jo.nil.mono (by omega))))))).mono (by omega)
theorem rd3 {σ:List Obj} {D:Nat} {a b:AV} {x y:Int} (h:Rd σ D a b) (hD:D≤999000):snap σ EC (.Cc [a,.int .i64 x,.int .i64 y])=some (.Cc [b,.int .i64 x,.int .i64 y]):=
 (Rd.Cc (Jo.cons (h.mono (D':=D+3) (by omega)) (Jo.cons (Rd.int.mono (D':=D+2) (by omega)) (Jo.cons (Rd.int.mono (D':=D+1) (by omega)) (Jo.nil.mono (by omega)))))) EC (by unfold EC;omega)
theorem Hd.Afa {α:Type} {f:α→AV} {es:Nat} {σ:List Obj} {v:AV} {b c:Bool} {l:List α} (h:Hd f es σ v b l c) (h0:v≠.sl false []):∃o g n,v=.own o g 0 n:=by
 rcases h with⟨_,_,rfl|⟨o',g,es',rfl,h⟩⟩|⟨_,o',g,rfl,h⟩
 ·exact absurd rfl h0
 ·exact⟨_,_,_,rfl⟩
 ·exact⟨_,_,_,rfl⟩
set_option maxHeartbeats 4000000 in
theorem Aae {g:GG} {L:List GC} {nn:Bool} (hg:g.ok) (hL:L.length<2 ^ 62) (hok:∀c∈L,c.ok):
 Af (Ad tab) 37 [g.av,.sl nn (vs GC.av L)] (· =.Cc [(Dw g L).1.av,.int .i64 (Dw g L).2.1,.int .i64 (Dw g L).2.2]):=by
 have hck:=Abq hg
 refine Abv rfl rfl ?_
 show vC _ _ [(0,.agg [.sl g.nn (vs GN.av g.nodes),.sl g.en (vs GE.av g.edges),.int .i64 g.Bl,.int .i64 g.Bq]),(1,.sl nn (vs GC.av L))] _ _
 by_cases h0:Ba g=0
 ·have ha:=QN h0
  have hfw:=AfM hg h0
  have hlL:(vs GC.av L).length=L.length:=lV _
  rw[h0]at hck
  (conv=>whnf);repeat' (first|(refine Aa hck ?_;rintro _ rfl;conv=>whnf)|(refine AdI hfw fun σ' c' oN uN nN oE uE nE N E hcp=>?_;conv=>whnf)|(refine kA ?_;conv=>whnf)|(refine Br.mk (fun hc=>?_) fun hc=>?_<;>first|exact hc.elim|conv=>whnf)|(refine kB ?_))
  have hz:=hcp.fr.get (o:=1) rfl (by simp)
  refine Cb fun σ1 f1 h1 l1=>?_
  have hz1:=f1.get hz (by simp)
  have hzl:=BZ hz
  (conv=>whnf);repeat' (first|(rw [h1];conv=>whnf)|(refine (Dl _ _).2 ?_;conv=>whnf)|(refine EG h1 fun σ2 f2 h2 l2=>?_;conv=>whnf)|(refine kA ?_;conv=>whnf)|(refine Br.mk (fun hc=>?_) fun hc=>?_<;>first|exact hc.elim|conv=>whnf)|(refine kB ?_))
  have f02:Fr σ' σ2 []:=((f1.mono (F':=[σ'.length]) (by simp)).trans f2).mono (by simp)
  have hz2:=f02.get hz (by simp)
  have hEd:=hcp.ed f02 h2
  refine AdJ hL hok hEd ha hz2 (fun σ3 c3 i e hr hz3=>?_) (fun σ3 c3 h tl hr hE3 ha3 hz3=>?_)
  ·have hR:Dw g L=(FD,i,e):=by unfold Dw;rw[if_neg (fun h=>h h0),hr]
   rw[hR]
   conv=>whnf
   exact⟨_,AfN rfl rfl hz3,_,_,rfl,rd3 UN (by omega),rfl⟩
  ·have hR:Dw g L=(h,L.length,0):=by unfold Dw;rw[if_neg (fun h=>h h0),hr]
   rw[hR]
   obtain⟨vN,vE,nb,eb,N3,E3,x,y,X3,hgo⟩:=hE3
   obtain⟨cn,hn1,_⟩:=X3.hn
   obtain⟨ce,he1,_⟩:=X3.he
   obtain⟨o1,u1,k1,rfl⟩:=hn1.Afa X3.oN
   obtain⟨o2,u2,k2,rfl⟩:=he1.Afa X3.oE
   have hb3:=X3.box
   have hnz:=X3.Ze hz3
   subst hgo
   have hq:=ha3.ask
   have hlN:=hq.lN
   have hlE:=hq.lE
   (conv=>whnf);repeat' (first|(rw [hb3];conv=>whnf)|(rw [hz3];conv=>whnf)|(refine (Dl _ _).2 ?_;conv=>whnf)|(refine EG hz3 fun σ4 f4 h4 l4=>?_;conv=>whnf)|(refine kA ?_;conv=>whnf)|(refine Br.mk (fun hc=>?_) fun hc=>?_<;>first|exact hc.elim|conv=>whnf)|(refine kB ?_))
   have hE4:=X3.fr f4 (fun o ho hm=>hnz (by simp only[List.mem_singleton]at hm;subst hm;exact ho))
   exact⟨_,AfN rfl rfl h4,_,_,rfl,rd3 hE4.snG (by omega),rfl⟩
 ·have hR:Dw g L=(FD,0,Ba g):=by unfold Dw;rw[if_pos h0]
  rw[hR]
  (conv=>whnf);repeat' (first|(refine Aa hck ?_;rintro _ rfl;conv=>whnf)|(refine kA ?_;conv=>whnf)|(refine Br.mk (fun hc=>?_) fun hc=>?_<;>first|exact hc.elim|conv=>whnf)|(refine kB ?_))
  all_goals first|(exfalso;omega)|exact⟨_,AfN rfl rfl rfl,_,_,rfl,rd3 UN (by omega),rfl⟩|exact⟨_,_,rfl,rd3 UN (by omega),rfl⟩
structure VN (n:GN):Prop where
 id:KI n.id
 nl:allNames n.labels
 nk:allNames (keysOf n.props)
 pl:allPlain n.props
 a:Zk n
structure VE (n:GE):Prop where
 id:KI n.id
 ty:isName n.ty
 nk:allNames (keysOf n.props)
 pl:allPlain n.props
 a:AbA n
structure VG (g:GG):Prop where
 ask:FY g
 n:∀n∈g.nodes,VN n
 e:∀n∈g.edges,VE n
 ends:∀e∈g.edges,(∃ n∈g.nodes,n.id=e.fr)∧∃n∈g.nodes,n.id=e.to
theorem AhF {g:GG} (h:Ba g=0):VG g:=by
 have ha:=QN h
 obtain⟨hf,hn,hN,hE⟩:=ER h
 refine⟨ha,fun n hm=>?_,fun n hm=>?_,fun n hm=>?_⟩
 ·have hA:=ha.aN n hm
  obtain⟨i,hi,rfl⟩:=List.getElem_of_mem hm
  have h2:=IZ hi (hN i hi)
  obtain⟨a1,a2,a3,a4,a5,a6,a7⟩:=Nv h2.2.2.2
  exact⟨⟨h2.2.1,by have:=hn.2.1;have:=h2.2.2.1;omega⟩,a5,a6,a7,hA⟩
 ·have hA:=ha.aE n hm
  obtain⟨i,hi,rfl⟩:=List.getElem_of_mem hm
  have h2:=I4 hi (hE i hi)
  obtain⟨a1,a2,a3,a4,a5,a6,a7⟩:=Nv h2.2.2.2.2.2.2
  exact⟨⟨h2.2.1,by have:=hn.2.2.2;have:=h2.2.2.1;omega⟩,h2.2.2.2.2.2.1,a6,a7,hA⟩
 ·obtain⟨i,hi,rfl⟩:=List.getElem_of_mem hm
  have h2:=I4 hi (hE i hi)
  exact⟨List.mem_map.1 h2.2.2.2.1,List.mem_map.1 h2.2.2.2.2.1⟩
section
variable {g:GG} {c:GC}
end
structure AtN (h:GG) (z:Int) (m:GN) (f:Int→Option GN) (E:List GE):Prop where
 ask:FY h
 here:lk GN.id h.nodes z=some m
 rest:∀y,y≠z→lk GN.id h.nodes y=f y
 ed:h.edges=E
theorem AtN.put {h:GG} {z:Int} {m m':GN} {f:Int→Option GN} {E:List GE} (a:AtN h z m f E) (hid:m'.id=z) (hn:Zk m'):AtN {h with nodes:=AY BU GN.id m' h.nodes} z m' f E where
 ask:=a.ask.LY hn ⟨m,(Y7 a.here).1,by rw[hid];exact(Y7 a.here).2⟩
 here:=by show lk GN.id (AY BU GN.id m' h.nodes) z=_;rw[Abg Aj a.ask.iN,if_pos hid.symm]
 rest:=fun y hy=>by show lk GN.id (AY BU GN.id m' h.nodes) y=_;rw[Abg Aj a.ask.iN,if_neg (by rw[hid];exact hy)];exact a.rest y hy
 ed:=a.ed
theorem AtN.id {h:GG} {z:Int} {m:GN} {f:Int→Option GN} {E:List GE} (a:AtN h z m f E):m.id=z:=(Y7 a.here).2
section
variable {z:Int} {f:Int→Option GN} {E:List GE}
end
theorem XC {l:List (List UInt8)} (h:Inc Op.bytesLess id l):rises l:=fun j hj=>by
 have:=h.get (show j<j+1 by omega) hj
 simp only[id]at this
 rw[Bool.or_eq_false_iff]
 constructor
 ·cases hb:Op.bytesLess l[j+1] l[j]with
  |false=>rfl
  |true=>have:=Ah.tr _ _ _ this hb;rw[Ah.LX]at this;cases this
 ·rw[beq_eq_false_iff_ne]
  intro e
  rw[e,Ah.LX]at this;cases this
theorem YZ {P:List GP} (h:Inc Op.bytesLess GP.key P):rises (keysOf P):=XC (by have:=Abh h;unfold Inc;exact this)
theorem XD {L:List (List UInt8)} {P:List GP} (h1:L.length≤8) (h2:P.length≤16) (h3:allNames L) (h4:allNames (keysOf P)) (h5:Inc Op.bytesLess id L) (h6:Inc Op.bytesLess GP.key P) (h7:allPlain P):Dt L P=0:=by
 unfold Dt
 rw[if_neg (by omega),if_neg (fun h=>h ⟨h3,h4⟩),if_neg (fun h=>h ⟨XC h5,YZ h6⟩),if_neg (fun h=>h h7)]
structure Chk (g:GG):Prop where
 vg:VG g
 nx:Gf g
 n:∀n∈g.nodes,n.id<g.Bl
 e:∀n∈g.edges,n.id<g.Bq
theorem AgQ {g:GG} (h:Ba g=0):Chk g:=by
 have hv:=AhF h
 obtain⟨hf,hn,hN,hE⟩:=ER h
 refine⟨hv,hn,fun n hm=>?_,fun n hm=>?_⟩
 ·obtain⟨i,hi,rfl⟩:=List.getElem_of_mem hm
  exact(IZ hi (hN i hi)).2.2.1
 ·obtain⟨i,hi,rfl⟩:=List.getElem_of_mem hm
  exact(I4 hi (hE i hi)).2.2.1
theorem AgR {g:GG} (h:Chk g):Ba g=0:=by
 have a:=h.vg.ask
 have hn:∀k,k<g.nodes.length→DW g.nodes g.Bl k=0:=fun k hk=>by
  have hm:=List.getElem_mem hk
  have v:=h.vg.n _ hm
  rw[VR hk (fun h0 h1=>by have:=a.iN.get (show k-1<k by omega) hk;simp only[BU,decide_eq_true_eq]at this;omega) (by have:=v.id.1;have:=h.n _ hm;omega)]
  exact XD v.a.lL v.a.lP v.nl v.nk v.a.iL v.a.iP v.pl
 have he:∀k,k<g.edges.length→DZ g.nodes g.edges g.Bq k=0:=fun k hk=>by
  have hm:=List.getElem_mem hk
  have v:=h.vg.e _ hm
  obtain⟨⟨p,hp,e1⟩,⟨q,hq,e2⟩⟩:=h.vg.ends _ hm
  rw[VT hk (fun h0 h1=>by have:=a.iE.get (show k-1<k by omega) hk;simp only[BU,decide_eq_true_eq]at this;omega) (by have:=v.id.1;have:=h.e _ hm;omega) ⟨List.mem_map.2 ⟨p,hp,e1⟩,List.mem_map.2 ⟨q,hq,e2⟩⟩ v.ty]
  exact XD (by simp) v.a.lP (fun s hs=>by cases hs) v.nk List.Pairwise.nil v.a.iP v.pl
 have:=X0 ⟨a.lN,a.lE⟩ h.nx hn he
 simp only[AV.int.injEq,true_and]at this
 exact this.symm
theorem Chk.LY {g:GG} (h:Chk g) {m:GN} (hm:VN m) (hx:∃n∈g.nodes,n.id=m.id):Chk {g with nodes:=AY BU GN.id m g.nodes}:=by
 obtain⟨n0,hn0,e0⟩:=hx
 refine⟨⟨h.vg.ask.LY hm.a ⟨n0,hn0,e0⟩,fun n hn=>?_,h.vg.e,fun e he=>?_⟩,h.nx,fun n hn=>?_,h.e⟩
 ·rcases Bc Aj hn with rfl|hn
  ·exact hm
  ·exact h.vg.n n hn
 ·have hk:∀z,(∃ n∈g.nodes,n.id=z)→∃n∈AY BU GN.id m g.nodes,n.id=z:=fun z ⟨n,hn,e⟩=>by
   by_cases q:z=m.id
   ·exact⟨m,(Ns Aj).2 (.inl rfl),q.symm⟩
   ·exact⟨n,(Ns Aj).2 (.inr ⟨hn,by rw[show GN.id n=z from e];exact q⟩),e⟩
  exact⟨hk _ (h.vg.ends e he).1,hk _ (h.vg.ends e he).2⟩
 ·rcases Bc Aj hn with rfl|hn
  ·have:=h.n n0 hn0;rw[e0]at this;exact this
  ·exact h.n n hn
theorem Chk.UR {g:GG} (h:Chk g) {m n0:GE} (hm:VE m) (hn0:n0∈g.edges) (e0:n0.id=m.id) (e1:n0.fr=m.fr) (e2:n0.to=m.to):Chk {g with edges:=AY BU GE.id m g.edges}:=by
 refine⟨⟨h.vg.ask.UR hm.a ⟨n0,hn0,e0⟩,h.vg.n,fun n hn=>?_,fun e he=>?_⟩,h.nx,h.n,fun n hn=>?_⟩
 ·rcases Bc Aj hn with rfl|hn
  ·exact hm
  ·exact h.vg.e n hn
 ·rcases Bc Aj he with rfl|he
  ·rw[← e1,←e2];exact h.vg.ends n0 hn0
  ·exact h.vg.ends e he
 ·rcases Bc Aj hn with rfl|hn
  ·have:=h.e n0 hn0;rw[e0]at this;exact this
  ·exact h.e n hn
theorem AaV {x:List UInt8} {l:List (List UInt8)} (hx:isName x) (hl:allNames l):allNames (AY Op.bytesLess id x l):=fun s hs=>by
 rcases Bc Ah hs with rfl|hs
 ·exact hx
 ·exact hl s hs
theorem XE {x:GP} {l:List GP} (hx:isName x.key) (hl:allNames (keysOf l)):allNames (keysOf (AY Op.bytesLess GP.key x l)):=fun s hs=>by
 obtain⟨p,hp,rfl⟩:=List.mem_map.1 hs
 rcases Bc Ah hp with rfl|hp
 ·exact hx
 ·exact hl _ (List.mem_map_of_mem hp)
theorem XF {x:List UInt8} {l:List GP} (hl:allNames (keysOf l)):allNames (keysOf (Cj Op.bytesLess GP.key x l)):=fun s hs=>by
 obtain⟨p,hp,rfl⟩:=List.mem_map.1 hs
 exact hl _ (List.mem_map_of_mem (BX hp))
theorem UD {x:GP} {l:List GP} (hx:DX x.v) (hl:allPlain l):allPlain (AY Op.bytesLess GP.key x l):=fun p hp=>by
 rcases Bc Ah hp with rfl|hp
 ·exact hx
 ·exact hl p hp
theorem XG {a b:Int} (ha:KI a) (hb:1≤b∧b≤1000001):1≤(if a+1>b then a+1 else b)∧(if a+1>b then a+1 else b)≤1000001:=by unfold KI at ha;split<;>omega
theorem Afv {a b c:Int} (h:a<b):a<(if c>b then c else b):=by split<;>omega
theorem Adi {a b c:Int} (h:a<c):a<(if c>b then c else b):=by split<;>omega
theorem Adj {g:GG} {c:GC} (h:Chk g):Chk (stepG g c).2:=by
 have ha:=h.vg.ask
 have hstep:=ha.step (c:=c)
 unfold stepG at hstep ⊢
 split
 ·exact h
 rename_i hk
 rw[if_neg hk]at hstep
 obtain⟨hop,hid,hnm,h6,hvl⟩:=Abz (Classical.not_not.1 hk)
 split
 ·rename_i h5
  rw[if_pos h5]at hstep
  unfold AZ at hstep ⊢
  split
  ·rename_i h1
   rw[if_pos h1]at hstep
   split
   ·exact h
   rename_i hx
   rw[if_neg hx]at hstep
   split
   ·rename_i hl
    rw[if_pos hl]at hstep
    have hb:VN ⟨c.id,false,[],false,[]⟩:=⟨hid,fun s hs=>(by cases hs),fun s hs=>(by cases hs),fun s hs=>(by cases hs),⟨List.Pairwise.nil,by simp,List.Pairwise.nil,by simp⟩⟩
    refine⟨⟨hstep,fun n hn=>?_,h.vg.e,fun e he=>?_⟩,?_,fun n hn=>?_,h.e⟩
    ·rcases Bc Aj hn with rfl|hn
     ·exact hb
     ·exact h.vg.n n hn
    ·have hkp:∀z,(∃ n∈g.nodes,n.id=z)→∃n∈AY BU GN.id ⟨c.id,false,[],false,[]⟩ g.nodes,n.id=z:=fun z ⟨n,hn,e⟩=>⟨n,(Ns Aj).2 (.inr ⟨hn,fun q=>hx ⟨n,hn,q⟩⟩),e⟩
     exact⟨hkp _ (h.vg.ends e he).1,hkp _ (h.vg.ends e he).2⟩
    ·have:=XG hid ⟨h.nx.1,h.nx.2.1⟩
     exact⟨this.1,this.2,h.nx.2.2⟩
    ·rcases Bc Aj hn with rfl|hn
     ·exact Adi (by show c.id<c.id+1;omega)
     ·exact Afv (h.n n hn)
   ·exact h
  rename_i hop1
  split
  ·exact h
  rename_i n hf
  obtain⟨hn,hz⟩:=Dx hf
  have hz:=of_decide_eq_true hz
  have hv:=h.vg.n n hn
  rw[if_neg hop1,hf]at hstep
  split
  ·split
   ·exact h
   rename_i hu
   refine⟨⟨?_,fun n hn=>h.vg.n n (BX hn),h.vg.e,fun e he=>?_⟩,h.nx,fun n hn=>h.n n (BX hn),h.e⟩
   ·exact{ha with lN:=Nat.le_trans (Em Aj) ha.lN,iN:=FI Aj ha.iN,aN:=fun m hm=>ha.aN m (BX hm)}
   ·have hkp:∀z,z≠c.id→(∃ n∈g.nodes,n.id=z)→∃n∈Cj BU GN.id c.id g.nodes,n.id=z:=fun z q ⟨n,hn,e⟩=>⟨n,(AdE Aj).2 ⟨hn,by rw[show GN.id n=z from e];exact q⟩,e⟩
    exact⟨hkp _ (fun q=>hu ⟨e,he,.inl q⟩) (h.vg.ends e he).1,hkp _ (fun q=>hu ⟨e,he,.inr q⟩) (h.vg.ends e he).2⟩
  split
  ·rename_i h3
   split
   ·exact h
   split
   ·exact h.LY ⟨hv.id,AaV (hnm (.inl h3)) hv.nl,hv.nk,hv.pl,⟨EP Ah hv.a.iL,Nat.le_trans (Gq Ah) (by omega),hv.a.iP,hv.a.lP⟩⟩ ⟨n,hn,rfl⟩
   ·exact h
  split
  ·split
   ·exact h.LY ⟨hv.id,fun s hs=>hv.nl s (BX hs),hv.nk,hv.pl,⟨FI Ah hv.a.iL,Nat.le_trans (Em Ah) hv.a.lL,hv.a.iP,hv.a.lP⟩⟩ ⟨n,hn,rfl⟩
   ·exact h
  split
  ·exact h.LY ⟨hv.id,hv.nl,XF hv.nk,fun p hp=>hv.pl p (BX hp),⟨hv.a.iL,hv.a.lL,FI Ah hv.a.iP,Nat.le_trans (Em Ah) hv.a.lP⟩⟩ ⟨n,hn,rfl⟩
  split
  ·rename_i h2 h3 h4 hnn hx
   have h5:c.op=5:=by omega
   refine h.LY ⟨hv.id,hv.nl,XE (hnm (by unfold P5;omega)) hv.nk,UD ((hvl (.inl h5)).resolve_left hnn) hv.pl,⟨hv.a.iL,hv.a.lL,EP Ah hv.a.iP,?_⟩⟩ ⟨n,hn,rfl⟩
   rcases hx with hx|hx
   ·exact Nat.le_trans (IC Ah hx) hv.a.lP
   ·exact Nat.le_trans (Gq Ah) (by omega)
  ·exact h
 ·rename_i h5
  rw[if_neg h5]at hstep
  unfold Bz at hstep ⊢
  split
  ·rename_i h6'
   rw[if_pos h6']at hstep
   split
   ·exact h
   rename_i hx
   rw[if_neg hx]at hstep
   split
   ·rename_i QT
    rw[if_pos QT]at hstep
    split
    ·rename_i hl
     rw[if_pos hl]at hstep
     have hb:VE ⟨c.id,c.fr,c.to,c.name,false,[]⟩:=⟨hid,hnm (by unfold P5;omega),fun s hs=>(by cases hs),fun s hs=>(by cases hs),⟨List.Pairwise.nil,by simp⟩⟩
     refine⟨⟨hstep,h.vg.n,fun n hn=>?_,fun e he=>?_⟩,?_,h.n,fun n hn=>?_⟩
     ·rcases Bc Aj hn with rfl|hn
      ·exact hb
      ·exact h.vg.e n hn
     ·rcases Bc Aj he with rfl|he
      ·exact QT
      ·exact h.vg.ends e he
     ·have:=XG hid h.nx.2.2
      exact⟨h.nx.1,h.nx.2.1,this.1,this.2⟩
     ·rcases Bc Aj hn with rfl|hn
      ·exact Adi (by show c.id<c.id+1;omega)
      ·exact Afv (h.e n hn)
    ·exact h
   ·exact h
  rename_i hop1
  split
  ·exact h
  rename_i n hf
  obtain⟨hn,hz⟩:=Dx hf
  have hv:=h.vg.e n hn
  split
  ·exact⟨⟨{ha with lE:=Nat.le_trans (Em Aj) ha.lE,iE:=FI Aj ha.iE,aE:=fun m hm=>ha.aE m (BX hm)},h.vg.n,fun m hm=>h.vg.e m (BX hm),fun e he=>h.vg.ends e (BX he)⟩,h.nx,h.n,fun m hm=>h.e m (BX hm)⟩
  split
  ·exact h.UR ⟨hv.id,hv.ty,XF hv.nk,fun p hp=>hv.pl p (BX hp),⟨FI Ah hv.a.iP,Nat.le_trans (Em Ah) hv.a.lP⟩⟩ hn rfl rfl rfl
  split
  ·rename_i h7 hnn hx
   have h8:c.op=8:=by omega
   refine h.UR ⟨hv.id,hv.ty,XE (hnm (by unfold P5;omega)) hv.nk,UD ((hvl (.inr h8)).resolve_left hnn) hv.pl,⟨EP Ah hv.a.iP,?_⟩⟩ hn rfl rfl rfl
   rcases hx with hx|hx
   ·exact Nat.le_trans (IC Ah hx) hv.a.lP
   ·exact Nat.le_trans (Gq Ah) (by omega)
  ·exact h
theorem Qh {g:GG} {m:GN} {L:List GN} (hg:g.ok) (hm:m.ok) (hL:Ln L) (h:∀x∈L,x=m∨x∈g.nodes) {z:Int} (hz:I64 z):(⟨true,L,g.en,g.edges,z,g.Bq⟩:GG).ok:=by
 obtain⟨g1,g2,g3,g4,g5,g6,g7,g8⟩:=hg
 refine⟨hL,fun h=>Bool.noConfusion h,fun x hx=>?_,g4,g5,g6,hz,g8⟩
 rcases h x hx with rfl|h
 ·exact hm
 ·exact g3 x h
theorem Qi {g:GG} {m:GE} {L:List GE} (hg:g.ok) (hm:m.ok) (hL:Ln L) (h:∀x∈L,x=m∨x∈g.edges) {z:Int} (hz:I64 z):(⟨g.nn,g.nodes,true,L,g.Bl,z⟩:GG).ok:=by
 obtain⟨g1,g2,g3,g4,g5,g6,g7,g8⟩:=hg
 refine⟨g1,g2,g3,hL,fun h=>Bool.noConfusion h,fun x hx=>?_,g7,hz⟩
 rcases h x hx with rfl|h
 ·exact hm
 ·exact g6 x h
theorem KL {α:Type} {lt:Int→Int→Bool} {key:α→Int} {x:α} {l:List α} (hs:MH lt) (h:l.length≤100000):Ln (AY lt key x l):=by
 have:=Gq (key:=key) hs (x:=x) (l:=l);unfold Ln;omega
theorem LG {α:Type} {key:α→List UInt8} {x:α} {l:List α} (h:l.length≤100000):Ln (AY Op.bytesLess key x l):=by
 have:=Gq (key:=key) Ah (x:=x) (l:=l);unfold Ln;omega
theorem LD {α:Type} {key:α→List UInt8} {x:List UInt8} {l:List α} (h:l.length≤100000):Ln (Cj Op.bytesLess key x l):=by
 have:=Em (key:=key) Ah (k:=x) (l:=l);unfold Ln;omega
theorem Vr {n:GN} {b:Bool} {L:List (List UInt8)} {x:List UInt8} (hn:n.ok) (hx:Ln x) (hL:Ln L) (hb:b=false→L=[]) (h:∀y∈L,y=x∨y∈n.labels):(⟨n.id,b,L,n.pn,n.props⟩:GN).ok:=by
 obtain⟨o1,o2,o3,o4,o5,o6,o7⟩:=hn
 refine⟨o1,hL,hb,fun s hs=>?_,o5,o6,o7⟩
 rcases h s hs with rfl|h
 ·exact hx
 ·exact o4 s h
theorem Vs {n:GN} {b:Bool} {L:List GP} {x:GP} (hn:n.ok) (hx:x.ok) (hL:Ln L) (hb:b=false→L=[]) (h:∀y∈L,y=x∨y∈n.props):(⟨n.id,n.ln,n.labels,b,L⟩:GN).ok:=by
 obtain⟨o1,o2,o3,o4,o5,o6,o7⟩:=hn
 refine⟨o1,o2,o3,o4,hL,hb,fun s hs=>?_⟩
 rcases h s hs with rfl|h
 ·exact hx
 ·exact o7 s h
theorem UO {n:GE} {b:Bool} {L:List GP} {x:GP} (hn:n.ok) (hx:x.ok) (hL:Ln L) (hb:b=false→L=[]) (h:∀y∈L,y=x∨y∈n.props):(⟨n.id,n.fr,n.to,n.ty,b,L⟩:GE).ok:=by
 obtain⟨o1,o2,o3,o4,o5,o6,o7⟩:=hn
 refine⟨o1,o2,o3,o4,hL,hb,fun s hs=>?_⟩
 rcases h s hs with rfl|h
 ·exact hx
 ·exact o7 s h
theorem Zf {z:Int} (h:I64 z):(⟨z,false,[],false,[]⟩:GN).ok:=⟨h,by simp[Ln],fun _=>rfl,by simp,by simp[Ln],fun _=>rfl,by simp⟩
theorem Zg {z fr to:Int} {nm:List UInt8} (h:I64 z) (h1:I64 fr) (h2:I64 to) (h3:Ln nm):(⟨z,fr,to,nm,false,[]⟩:GE).ok:=⟨h,h1,h2,h3,by simp[Ln],fun _=>rfl,by simp⟩
theorem Aez {g:GG} (hg:g.ok) {z:Int} (hl:g.nodes.length≤100000):({g with nodes:=Cj BU GN.id z g.nodes}:GG).ok:=by
 obtain⟨g1,g2,g3,g4,g5,g6,g7,g8⟩:=hg
 refine⟨?_,fun h=>?_,fun x hx=>g3 x (BX hx),g4,g5,g6,g7,g8⟩
 ·have:=Em (key:=GN.id) Aj (k:=z) (l:=g.nodes);unfold Ln;dsimp only;omega
 ·rw[show g.nodes=[] from g2 h];rfl
theorem AeA {g:GG} (hg:g.ok) {z:Int} (hl:g.edges.length≤100000):({g with edges:=Cj BU GE.id z g.edges}:GG).ok:=by
 obtain⟨g1,g2,g3,g4,g5,g6,g7,g8⟩:=hg
 refine⟨g1,g2,g3,?_,fun h=>?_,fun x hx=>g6 x (BX hx),g7,g8⟩
 ·have:=Em (key:=GE.id) Aj (k:=z) (l:=g.edges);unfold Ln;dsimp only;omega
 ·rw[show g.edges=[] from g5 h];rfl
theorem Vt {g:GG} {n m:GN} (hg:g.ok) (hl:g.nodes.length≤100000) (hn:n∈g.nodes) (hm:m.ok):({g with nodes:=AY BU GN.id m g.nodes}:GG).ok:=by
 have hb:g.nn=true:=by
  cases hb:g.nn with
  |true=>rfl
  |false=>have:=hg.2.1 hb;rw[this]at hn;cases hn
 have:=Qh hg hm (KL (key:=GN.id) Aj hl) (fun x hx=>Bc Aj hx) hg.2.2.2.2.2.2.1
 rw[← hb]at this
 exact this
theorem Ac8 {g:GG} {n m:GE} (hg:g.ok) (hl:g.edges.length≤100000) (hn:n∈g.edges) (hm:m.ok):({g with edges:=AY BU GE.id m g.edges}:GG).ok:=by
 have hb:g.en=true:=by
  cases hb:g.en with
  |true=>rfl
  |false=>have:=hg.2.2.2.2.1 hb;rw[this]at hn;cases hn
 have:=Qi hg hm (KL (key:=GE.id) Aj hl) (fun x hx=>Bc Aj hx) hg.2.2.2.2.2.2.2
 rw[← hb]at this
 exact this
theorem Xu {a b:Int} (ha:KI a) (hb:I64 b):I64 (if a+1>b then a+1 else b):=by unfold I64 KI at *;split<;>omega
theorem AeB {g:GG} {c:GC} (hg:g.ok) (ha:FY g) (hc:c.ok):(stepG g c).2.ok:=by
 have lN:=ha.lN
 have lE:=ha.lE
 obtain⟨c1,c2,c3,c4,c5,c6⟩:=hc
 unfold stepG
 split
 ·exact hg
 rename_i hk
 have hid:=(Abz (Classical.not_not.1 hk)).2.1
 split
 ·unfold AZ
  split
  ·split
   ·exact hg
   split
   ·exact Qh hg (Zf c2) (KL Aj (by omega)) (fun x hx=>Bc Aj hx) (Xu hid hg.2.2.2.2.2.2.1)
   ·exact hg
  split
  ·exact hg
  rename_i n hf
  have hn:=List.mem_of_find?_eq_some hf
  have hno:=hg.2.2.1 n hn
  have hA:=ha.aN n hn
  have l1:=hA.lL
  have l2:=hA.lP
  split
  ·split
   ·exact hg
   ·exact Aez hg (by omega)
  split
  ·split
   ·exact hg
   split
   ·exact Vt hg (by omega) hn (Vr hno c5 (LG (by omega)) (fun h=>Bool.noConfusion h) (fun y hy=>Bc Ah hy))
   ·exact hg
  split
  ·split
   ·exact Vt hg (by omega) hn (Vr hno c5 (LD (by omega)) (fun h=>Bool.noConfusion h) (fun y hy=>.inr (BX hy)))
   ·exact hg
  split
  ·refine Vt hg (by omega) hn (Vs (x:=⟨c.name,c.v⟩) hno ⟨c5,c6⟩ (LD (by omega)) (fun h=>?_) (fun y hy=>.inr (BX hy)))
   rw[show n.props=[] from hno.2.2.2.2.2.1 h];rfl
  split
  ·exact Vt hg (by omega) hn (Vs (x:=⟨c.name,c.v⟩) hno ⟨c5,c6⟩ (LG (by omega)) (fun h=>Bool.noConfusion h) (fun y hy=>Bc Ah hy))
  ·exact hg
 ·unfold Bz
  split
  ·split
   ·exact hg
   split
   ·split
    ·exact Qi hg (Zg c2 c3 c4 c5) (KL Aj (by omega)) (fun x hx=>Bc Aj hx) (Xu hid hg.2.2.2.2.2.2.2)
    ·exact hg
   ·exact hg
  split
  ·exact hg
  rename_i n hf
  have hn:=List.mem_of_find?_eq_some hf
  have hno:=hg.2.2.2.2.2.1 n hn
  have hA:=ha.aE n hn
  have l2:=hA.lP
  split
  ·exact AeA hg (by omega)
  split
  ·refine Ac8 hg (by omega) hn (UO (x:=⟨c.name,c.v⟩) hno ⟨c5,c6⟩ (LD (by omega)) (fun h=>?_) (fun y hy=>.inr (BX hy)))
   rw[show n.props=[] from hno.2.2.2.2.2.1 h];rfl
  split
  ·exact Ac8 hg (by omega) hn (UO (x:=⟨c.name,c.v⟩) hno ⟨c5,c6⟩ (LG (by omega)) (fun h=>Bool.noConfusion h) (fun y hy=>Bc Ah hy))
  ·exact hg
structure AJ where
 fr:Int
 to:Int
 ed:Int
def AJ.av (a:AJ):AV:=.agg [.int .i64 a.fr,.int .i64 a.to,.int .i64 a.ed]
theorem UU:∀a:AJ,a.av.cells.length=3:=fun _=>rfl
theorem Ahy {g:GG} {len c go gx:Nat} {nn:Bool} {W:List AJ} {x:AJ} {id dir ii:Int} (hl:len=W.length) (h0:0<len) (hs:len<2^61) {Q:Bd→Env→Ap→Prop}
 (hQ:∀(t:Nat) (W':List AJ),W'.length=len→t<len→Q (.exit 2) [(1,.int .i64 id),(2,.sl false []),(3,.int .i64 dir),(4,.ref 0 0 0 0),(9,.own 1 go 0 len),(10,.int .i64 ii),(11,.ref 2 gx 0 0),(13,.int .i64 t),(84,.bool false)] ⟨[.arr 0 4 true true [g.av],.arr go 3 nn true (vs AJ.av W'),.arr gx 3 true true [x.av]],c⟩):
 Run (Ad tab) (.loop l139_0_h l139_0_b) [(1,.int .i64 id),(2,.sl false []),(3,.int .i64 dir),(4,.ref 0 0 0 0),(9,.own 1 go 0 len),(10,.int .i64 ii),(11,.ref 2 gx 0 0),(13,.int .i64 (len-1:Nat))] ⟨[.arr 0 4 true true [g.av],.arr go 3 nn true (vs AJ.av W),.arr gx 3 true true [x.av]],c⟩ Q:=by
 refine Ak (fun m env s=>∃(t:Nat) (W:List AJ),m=t∧t<len∧W.length=len∧env=[(1,.int .i64 id),(2,.sl false []),(3,.int .i64 dir),(4,.ref 0 0 0 0),(9,.own 1 go 0 len),(10,.int .i64 ii),(11,.ref 2 gx 0 0),(13,.int .i64 t)]∧s=⟨[.arr 0 4 true true [g.av],.arr go 3 nn true (vs AJ.av W),.arr gx 3 true true [x.av]],c⟩) ?_ _ _ _ ⟨len-1,W,rfl,by omega,hl.symm,rfl,rfl⟩
 clear hl
 rintro m _ _ ⟨t,W,hm,ht,hW,rfl,rfl⟩
 subst m
 refine⟨rfl,?_⟩
 by_cases h:0<t
 ·(conv=>whnf);repeat' (first|(apply Aq;(· exact nVz (t-1) (by omega) (by omega));conv=>whnf)|((with_reducible show eqK _ _);refine tV UU (x:=W[t-1]) t ?_ (by omega);conv=>whnf)|(refine kA ?_;conv=>whnf)|(refine Br.mk (fun hc=>?_) fun hc=>?_<;>first|exact hc.elim|conv=>whnf)|(refine kB ?_))
  all_goals first
   |(refine again.mk ⟨t-1,by omega,t-1,W.set t W[t-1],rfl,by omega,by rw[List.length_set];exact hW,?_,rfl⟩;rw[show ((t-1:Nat):Int)=(t:Int)-1 by omega];done)
   |(refine again.mk ⟨t-1,by omega,t-1,W.set t W[t-1],rfl,by omega,by rw[List.length_set];exact hW,?_,rfl⟩;rw[show ((t-1:Nat):Int)=(t:Int)-1 by omega];rfl)
   |exact hQ _ _ hW ht
 ·(conv=>whnf);repeat' (first  |(refine kA ?_;conv=>whnf)|(refine Br.mk (fun hc=>?_) fun hc=>?_<;>first|exact hc.elim|conv=>whnf)|(refine kB ?_))
  exact hQ _ _ hW ht
section
variable {α κ:Type} {lt:κ→κ→Bool} {key:α→κ}
theorem LM {x y:α} {L:List α} (hs:MH lt) (h:lt (key x) (key y)=true):AY lt key x (L++[y])=AY lt key x L++[y]:=by
 have h1:lt (key y) (key x)=false:=by
  cases hb:lt (key y) (key x)with
  |false=>rfl
  |true=>have:=hs.tr _ _ _ h hb;rw[hs.LX]at this;cases this
 simp only[AY,below,above,List.filter_append,List.filter_cons,List.filter_nil,h,h1,if_true,List.append_assoc]
 rfl
theorem KQ {x:α} {L:List α} (hs:MH lt) (h:∀y∈L,lt (key y) (key x)=true):AY lt key x L=L++[x]:=by
 have e1:below lt key (key x) L=L:=filter_all h
 have e2:above lt key (key x) L=[]:=filter_none fun y hy=>by
  cases hb:lt (key x) (key y)with
  |false=>rfl
  |true=>have:=hs.tr _ _ _ hb (h y hy);rw[hs.LX]at this;cases this
 rw[AY,e1,e2,List.append_nil]
theorem OE {x y:α} {L:List α} (hs:MH lt) (h:∀y∈L,lt (key y) (key x)=true) (e:key y=key x):AY lt key x (L++[y])=L++[x]:=by
 have h1:lt (key y) (key x)=false:=by rw[e];exact hs.LX _
 have h2:lt (key x) (key y)=false:=by rw[e];exact hs.LX _
 rw[← KQ hs h]
 simp[AY,below,above,List.filter_append,h1,h2]
end
theorem Rq {α:Type} {key:α→Int} {l:List α} {i:Nat} {x:Int} (h:Inc BU key l) (hi:i<l.length) (hx:x≤key l[i]):∀y∈l.drop (i+1),x<key y:=by
 intro y hy
 obtain⟨j,hj,rfl⟩:=List.mem_drop_iff_getElem.1 hy
 have:=h.get (show i<i+1+j by omega) (by omega)
 simp only[BU,decide_eq_true_eq]at this
 omega
theorem XO {x y:GN} {L:List GN} (h:x.id<y.id):AY BU GN.id x (L++[y])=AY BU GN.id x L++[y]:=LM Aj (by simpa[BU]using h)
theorem XP {x:GN} {L:List GN} (h:∀y∈L,y.id<x.id):AY BU GN.id x L=L++[x]:=KQ Aj fun y hy=>by simpa[BU]using h y hy
theorem AeZ {x y:GN} {L:List GN} (h:∀y∈L,y.id<x.id) (e:y.id=x.id):AY BU GN.id x (L++[y])=L++[x]:=OE Aj (fun y hy=>by simpa[BU]using h y hy) e
set_option maxHeartbeats 1000000 in
theorem V7 {g:GG} {n:GN} (hg:g.ok) (hN:g.nodes.length≤3000) (hI:Inc BU GN.id g.nodes) (hi1:1≤n.id) (hi2:n.id≤1000000):Af (Ad tab) 68 [g.av,n.av] (· =GG.av ⟨true,AY BU GN.id n g.nodes,g.en,g.edges,(if n.id+1>g.Bl then n.id+1 else g.Bl),g.Bq⟩):=by
 obtain⟨g1,g2,g3,g4,g5,g6,g7,g8⟩:=hg
 unfold I64 at g7
 refine Ac rfl rfl ?_
 (conv=>whnf);repeat' (first  |(refine kA ?_;conv=>whnf)|(refine Br.mk (fun hc=>?_) fun hc=>?_<;>first|exact hc.elim|conv=>whnf)|(refine kB ?_))
 refine Ak (fun m env s=>∃(i c go k:Nat) (b d:Bool) (l:List GN),m=g.nodes.length-i∧i≤g.nodes.length∧k=l.length∧l.length≤i+1∧(b=false→d=false)∧(d=false→l=g.nodes.take i∧∀y∈g.nodes.take i,y.id<n.id)∧(d=true→l=AY BU GN.id n (g.nodes.take i)∧∀y∈g.nodes.drop i,n.id<y.id)∧env=[(2,.ref 0 0 0 0),(3,.ref 1 1 0 0),(4,.ref 2 2 0 0),(5,.own 3 go 0 k),(6,.bool d),(7,.int .i64 i)]∧
  s=⟨[.arr 0 4 true true [g.av],.arr 1 3 true true [n.av],.arr 2 4 true true [.agg [.sl false [],.sl false [],.int .i64 0,.int .i64 0]],.arr go 3 b true (vs GN.av l)],c⟩) ?_ _ _ _ ⟨0,_,_,0,_,_,[],rfl,by omega,rfl,by simp,fun _=>rfl,fun _=>⟨rfl,by simp⟩,fun h=>Bool.noConfusion h,rfl,rfl⟩
 rintro _ _ _ ⟨i,c,go,k,b,d,l,rfl,hi,hk,hl,hb,hd,ht,rfl,rfl⟩
 refine⟨rfl,?_⟩
 subst hk
 by_cases hlt:i<g.nodes.length
 ·have hda:∀x:Int,x≤(g.nodes[i]).id→∀y∈g.nodes.drop (i+1),x<y.id:=fun x hx=>Rq hI hlt hx
  have hs:=List.take_succ_eq_append_getElem hlt
  have htk:∀{P:GN→Prop},(∀ y∈g.nodes.take i,P y)→P g.nodes[i]→∀y∈g.nodes.take (i+1),P y:=fun{P} h1 h2 y hy=>by
   rw[hs]at hy
   rcases List.mem_append.1 hy with hy|hy
   ·exact h1 y hy
   ·obtain rfl:=List.mem_singleton.1 hy;exact h2
  cases d
  ·obtain⟨rfl,hlo⟩:=hd rfl
   have hle:(g.nodes.take i).length≤i:=by rw[List.length_take];omega
   (conv=>whnf);repeat' (first|(refine IB (x:=n) QM (by simp) (by simp;omega) ?_;conv=>whnf)|(refine IB (x:=g.nodes[i]) QM (by simp) (by simp;omega) ?_;conv=>whnf)|(refine kA ?_;conv=>whnf)|(refine Br.mk (fun hc=>?_) fun hc=>?_<;>first|exact hc.elim|conv=>whnf)|(refine kB ?_))
   all_goals first
        |exact again.mk ⟨_,by omega,i+1,_,_,_,_,_,g.nodes.take i++[n]++[g.nodes[i]],rfl,by omega,by simp,by simp;omega,fun h=>Bool.noConfusion h,fun h=>Bool.noConfusion h,fun _=>⟨by rw[hs,XO (by omega),XP hlo],hda _ (by omega)⟩,rfl,rfl⟩
        |exact again.mk ⟨_,by omega,i+1,_,_,_,_,_,g.nodes.take i++[n],rfl,by omega,by simp,by simp;omega,fun h=>Bool.noConfusion h,fun h=>Bool.noConfusion h,fun _=>⟨by rw[hs,AeZ hlo (by omega)],hda _ (by omega)⟩,rfl,rfl⟩
        |exact again.mk ⟨_,by omega,i+1,_,_,_,_,_,g.nodes.take i++[g.nodes[i]],rfl,by omega,by rw[List.length_append,List.length_singleton],by rw[List.length_append,List.length_singleton];omega,fun _=>rfl,fun _=>⟨hs.symm,htk hlo (by omega)⟩,fun h=>Bool.noConfusion h,rfl,rfl⟩
        |(exfalso;omega)
  ·obtain⟨rfl,hhi⟩:=ht rfl
   have hgt:n.id<(g.nodes[i]).id:=hhi _ (by rw[List.drop_eq_getElem_cons hlt];exact List.mem_cons_self)
   (conv=>whnf);repeat' (first|(refine IB (x:=g.nodes[i]) QM (by simp) (by simp;omega) ?_;conv=>whnf)|(refine kA ?_;conv=>whnf)|(refine Br.mk (fun hc=>?_) fun hc=>?_<;>first|exact hc.elim|conv=>whnf)|(refine kB ?_))
   all_goals first
        |exact again.mk ⟨_,by omega,i+1,_,_,_,_,_,AY BU GN.id n (g.nodes.take i)++[g.nodes[i]],rfl,by omega,by simp,by simp;omega,fun h=>Bool.noConfusion h,fun h=>Bool.noConfusion h,fun _=>⟨by rw[hs,XO hgt],hda _ (by omega)⟩,rfl,rfl⟩
        |(exfalso;omega)
 ·obtain rfl:i=g.nodes.length:=by omega
  rw[List.take_length]at hd ht
  cases d
  ·obtain⟨rfl,hlo⟩:=hd rfl
   rw[XP hlo]
   (conv=>whnf);repeat' (first|(refine IB (x:=n) QM (by simp) (by simp;omega) ?_;conv=>whnf)|(refine kA ?_;conv=>whnf)|(refine Br.mk (fun hc=>?_) fun hc=>?_<;>first|exact hc.elim|conv=>whnf)|(refine kB ?_))
   all_goals first|rfl|(exfalso;omega)
  ·obtain⟨rfl,_⟩:=ht rfl
   cases b
   ·exact absurd (hb rfl) Bool.noConfusion
   (conv=>whnf);repeat' (first  |(refine kA ?_;conv=>whnf)|(refine Br.mk (fun hc=>?_) fun hc=>?_<;>first|exact hc.elim|conv=>whnf)|(refine kB ?_))
   all_goals first|rfl|(exfalso;omega)
theorem Aki {α:Type} {f:α→AV} {es g len:Nat} {nn cl:Bool} {l l':List α} {ys:List AV} {bytes:Nat} {K:Nat→Bool→Bool→List AV→Prop} (he:ys=vs f l') (hf:∀x,(f x).cells.length=es) (hl:len=l.length) (hr:(l.length+l'.length)*bytes≤2 ^ 46) (hn:nn=false→l=[]) (h:∀b,(b=false→l++l'=[])→K (l.length+l'.length) b cl (vs f (l++l'))):
 LU g g es es len nn cl true (vs f l) ys bytes K:=by
 subst hl he
 refine⟨⟨rfl,rfl,by simp,F7 hf l',by rw[lV];exact Jr hr⟩,?_⟩
 rw[lV,Bool.and_true,List.take_of_length_le (by simp)]
 have:=h (nn||!(vs f l').isEmpty) (fun hb=>by
  simp[vs]at hb
  rw[hn hb.1,hb.2];rfl)
 simpa[vs]using this
theorem AeF {α:Type} {A B:List α}:List.take (A.length+B.length) (List.drop 0 (A++B))=A++B:=by
 rw[List.drop_zero,List.take_of_length_le (Nat.le_of_eq List.length_append)]
theorem YW (x:List UInt8):(AV.str x).cells.length=1:=rfl
theorem Wi {p q:Prop} [Decidable p] [Decidable q] (h:p↔q):AV.bool (decide p)=AV.bool (decide q):=by
 by_cases hp:p
 ·rw[decide_eq_true hp,decide_eq_true (h.1 hp)]
 ·rw[decide_eq_false hp,decide_eq_false (mt h.2 hp)]
theorem Aco {g:GV} (hg:g.ok):Af (Ad tab) 98 [g.av] (· =.bool (decide (isNull g))):=by
 refine Ac rfl rfl ?_
 (conv=>whnf);repeat' (first|(refine Aa (Aeh hg) ?_;rintro _ ⟨z,rfl,hz⟩;conv=>whnf)|(refine kA ?_;conv=>whnf)|(refine Br.mk (fun hc=>?_) fun hc=>?_<;>first|exact hc.elim|conv=>whnf)|(refine kB ?_))
 all_goals first|exact Bv (hz.1 hc)|exact AB (mt hz.2 hc)|exact Wi hz
set_option maxHeartbeats 1000000 in
theorem V5 {P:List GP} {nn:Bool} {key:List UInt8} {v:GV} (hP:P.length≤100000) (hI:Inc Op.bytesLess GP.key P) (hv:v.ok) (hn:¬isNull v):Af (Ad tab) 100 [.sl nn (vs GP.av P),.str key,v.av] (· =.Cc [.sl true (vs GP.av (AY Op.bytesLess GP.key ⟨key,v⟩ P)),.bool (decide ((AY Op.bytesLess GP.key ⟨key,v⟩ P).length≤16))]):=by
 have h0:Af (Ad tab) 98 [v.av] (· =.bool false):=by have:=Aco hv;rw[decide_eq_false hn]at this;exact this
 refine Ac rfl rfl ?_
 (conv=>whnf);repeat' (first  |(refine kA ?_;conv=>whnf)|(refine Br.mk (fun hc=>?_) fun hc=>?_<;>first|exact hc.elim|conv=>whnf)|(refine kB ?_))
 refine Ak (fun m env s=>∃(i c go k:Nat) (b d:Bool) (r:List GP),m=P.length-i∧i≤P.length∧k=r.length∧r.length≤i+1∧(b=false→d=false)∧(d=false→r=P.take i∧∀y∈P.take i,Op.bytesLess y.key key=true)∧(d=true→r=AY Op.bytesLess GP.key ⟨key,v⟩ (P.take i)∧∀y∈P.drop i,Op.bytesLess key y.key=true)∧env=[(0,.sl nn (vs GP.av P)),(1,.str key),(5,.ref 0 0 0 0),(8,.own 1 go 0 k),(9,.bool d),(10,.int .i64 i)]∧
  s=⟨[.arr 0 5 true true [v.av],.arr go 6 b true (vs GP.av r)],c⟩) ?_ _ _ _ ⟨0,_,_,0,_,_,[],rfl,by omega,rfl,by simp,fun _=>rfl,fun _=>⟨rfl,by simp⟩,fun h=>Bool.noConfusion h,rfl,rfl⟩
 rintro _ _ _ ⟨i,c,go,k,b,d,r,rfl,hi,hk,hl,hb,hd,ht,rfl,rfl⟩
 refine⟨rfl,?_⟩
 subst hk
 by_cases hlt:i<P.length
 ·have hs:=List.take_succ_eq_append_getElem hlt
  have hab:∀y∈P.drop (i+1),Op.bytesLess (P[i]).key y.key=true:=fun y hy=>by
   obtain⟨j,hj,rfl⟩:=List.mem_drop_iff_getElem.1 hy
   exact hI.get (show i<i+1+j by omega) (by omega)
  have htk:∀{R:GP→Prop},(∀ y∈P.take i,R y)→R P[i]→∀y∈P.take (i+1),R y:=fun{R} h1 h2 y hy=>by
   rw[hs]at hy
   rcases List.mem_append.1 hy with hy|hy
   ·exact h1 y hy
   ·obtain rfl:=List.mem_singleton.1 hy;exact h2
  cases d
  ·obtain⟨rfl,hlo⟩:=hd rfl
   (conv=>whnf);repeat' (first|(refine Aa h0 ?_;rintro _ rfl;conv=>whnf)|(refine IB (x:=(⟨key,v⟩:GP)) OB (by simp) (by simp;omega) ?_;conv=>whnf)|(refine IB (x:=P[i]) OB (by simp) (by simp;omega) ?_;conv=>whnf)|(refine kA ?_;conv=>whnf)|(refine Br.mk (fun hc=>?_) fun hc=>?_<;>first|exact hc.elim|conv=>whnf)|(refine kB ?_))
   all_goals first
        |(exfalso;have e1:Op.bytesLess (P[i]).key key=true:=by assumption
          rw[hc,Ah.LX]at e1;cases e1)
        |(have hgt:Op.bytesLess key (P[i]).key=true:=by
           cases hx:Op.bytesLess key (P[i]).key with
           |true=>rfl
           |false=>exact absurd (Ah.tot _ _ (by assumption) hx) hc
          exact again.mk ⟨_,by omega,i+1,_,_,_,_,_,P.take i++[⟨key,v⟩]++[P[i]],rfl,by omega,by simp,by rw[List.length_append,List.length_append,List.length_singleton,List.length_singleton,List.length_take];omega,fun h=>Bool.noConfusion h,fun h=>Bool.noConfusion h,fun _=>⟨by rw[hs,LM Ah hgt,KQ Ah hlo],fun y hy=>Ah.tr _ _ _ hgt (hab y hy)⟩,rfl,rfl⟩)
        |exact again.mk ⟨_,by omega,i+1,_,_,_,_,_,P.take i++[⟨key,v⟩],rfl,by omega,by simp,by rw[List.length_append,List.length_singleton,List.length_take];omega,fun h=>Bool.noConfusion h,fun h=>Bool.noConfusion h,fun _=>⟨by rw[hs,OE Ah hlo hc],fun y hy=>by have:=hab y hy;rw[hc]at this;exact this⟩,rfl,rfl⟩
        |exact again.mk ⟨_,by omega,i+1,_,_,_,_,_,P.take i++[P[i]],rfl,by omega,by rw[List.length_append,List.length_singleton],by rw[List.length_append,List.length_singleton,List.length_take];omega,fun _=>rfl,fun _=>⟨hs.symm,htk hlo (by assumption)⟩,fun h=>Bool.noConfusion h,rfl,rfl⟩
  ·obtain⟨rfl,hhi⟩:=ht rfl
   have hgt:Op.bytesLess key (P[i]).key=true:=hhi _ (by rw[List.drop_eq_getElem_cons hlt];exact List.mem_cons_self)
   (conv=>whnf);repeat' (first|(refine IB (x:=P[i]) OB (by simp) (by simp;omega) ?_;conv=>whnf)|(refine kA ?_;conv=>whnf)|(refine Br.mk (fun hc=>?_) fun hc=>?_<;>first|exact hc.elim|conv=>whnf)|(refine kB ?_))
   all_goals first
        |(exfalso;rw[hc,Ah.LX]at hgt;cases hgt)
        |exact again.mk ⟨_,by omega,i+1,_,_,_,_,_,AY Op.bytesLess GP.key ⟨key,v⟩ (P.take i)++[P[i]],rfl,by omega,by simp,by simp;omega,fun h=>Bool.noConfusion h,fun h=>Bool.noConfusion h,fun _=>⟨by rw[hs,LM Ah hgt],fun y hy=>Ah.tr _ _ _ hgt (hab y hy)⟩,rfl,rfl⟩
 ·obtain rfl:i=P.length:=by omega
  rw[List.take_length]at hd ht
  cases d
  ·obtain⟨rfl,hlo⟩:=hd rfl
   rw[KQ Ah (x:=(⟨key,v⟩:GP)) hlo]
   (conv=>whnf);repeat' (first|(refine Aa h0 ?_;rintro _ rfl;conv=>whnf)|(refine IB (x:=(⟨key,v⟩:GP)) OB (by simp) (by simp;omega) ?_;conv=>whnf)|(refine kA ?_;conv=>whnf)|(refine Br.mk (fun hc=>?_) fun hc=>?_<;>first|exact hc.elim|conv=>whnf)|(refine kB ?_))
   all_goals first|(exfalso;omega)|(refine congrArg (fun z=>AV.Cc [AV.sl true _,AV.bool z]) ?_;symm;first|exact decide_eq_true (by rw[List.length_append,List.length_singleton];omega)|exact decide_eq_false (by rw[List.length_append,List.length_singleton];omega))
  ·obtain⟨rfl,_⟩:=ht rfl
   cases b
   ·exact absurd (hb rfl) Bool.noConfusion
   (conv=>whnf);repeat' (first  |(refine kA ?_;conv=>whnf)|(refine Br.mk (fun hc=>?_) fun hc=>?_<;>first|exact hc.elim|conv=>whnf)|(refine kB ?_))
   all_goals first|(exfalso;omega)|exact congrArg (fun z=>AV.Cc [AV.sl true (vs GP.av (AY Op.bytesLess GP.key ⟨key,v⟩ P)),AV.bool z]) (by first|rfl|(simp;omega))
section
variable {α κ:Type} {lt:κ→κ→Bool} {key:α→κ}
theorem TY {k:κ} {y:α} {L:List α} (hs:MH lt) (h:lt k (key y)=true):Cj lt key k (L++[y])=Cj lt key k L++[y]:=by
 have h1:lt (key y) k=false:=by
  cases hb:lt (key y) k with
  |false=>rfl
  |true=>have:=hs.tr _ _ _ h hb;rw[hs.LX]at this;cases this
 simp[Cj,below,above,List.filter_append,h,h1]
theorem QZ {k:κ} {L:List α} (hs:MH lt) (h:∀y∈L,lt (key y) k=true):Cj lt key k L=L:=by
 have e1:below lt key k L=L:=filter_all h
 have e2:above lt key k L=[]:=filter_none fun y hy=>by
  cases hb:lt k (key y)with
  |false=>rfl
  |true=>have:=hs.tr _ _ _ hb (h y hy);rw[hs.LX]at this;cases this
 rw[Cj,e1,e2,List.append_nil]
theorem Aak {k:κ} {y:α} {L:List α} (hs:MH lt) (h:∀y∈L,lt (key y) k=true) (e:key y=k):Cj lt key k (L++[y])=L:=by
 have h1:lt (key y) k=false:=by rw[e];exact hs.LX _
 have h2:lt k (key y)=false:=by rw[e];exact hs.LX _
 have:=QZ hs h
 simp only[Cj,below,above]at this
 simp[Cj,below,above,List.filter_append,h1,h2,this]
end
set_option maxHeartbeats 1000000 in
theorem V3 {P:List GP} {nn:Bool} {key:List UInt8} {v:GV} (hP:P.length≤100000) (hI:Inc Op.bytesLess GP.key P) (hv:v.ok) (hn:isNull v):Af (Ad tab) 100 [.sl nn (vs GP.av P),.str key,v.av] (fun w=>∃b,(b=false→Cj Op.bytesLess GP.key key P=[])∧w=.Cc [.sl b (vs GP.av (Cj Op.bytesLess GP.key key P)),.bool (decide ((Cj Op.bytesLess GP.key key P).length≤16))]):=by
 have h0:Af (Ad tab) 98 [v.av] (· =.bool true):=by have:=Aco hv;rw[decide_eq_true hn]at this;exact this
 refine Ac rfl rfl ?_
 (conv=>whnf);repeat' (first  |(refine kA ?_;conv=>whnf)|(refine Br.mk (fun hc=>?_) fun hc=>?_<;>first|exact hc.elim|conv=>whnf)|(refine kB ?_))
 refine Ak (fun m env s=>∃(i c go k:Nat) (b d:Bool) (r:List GP),m=P.length-i∧i≤P.length∧k=r.length∧r.length≤i+1∧(b=false→r=[])∧(d=false→r=P.take i∧∀y∈P.take i,Op.bytesLess y.key key=true)∧(d=true→r=Cj Op.bytesLess GP.key key (P.take i)∧∀y∈P.drop i,Op.bytesLess key y.key=true)∧env=[(0,.sl nn (vs GP.av P)),(1,.str key),(5,.ref 0 0 0 0),(8,.own 1 go 0 k),(9,.bool d),(10,.int .i64 i)]∧
  s=⟨[.arr 0 5 true true [v.av],.arr go 6 b true (vs GP.av r)],c⟩) ?_ _ _ _ ⟨0,_,_,0,_,_,[],rfl,by omega,rfl,by simp,fun _=>rfl,fun _=>⟨rfl,by simp⟩,fun h=>Bool.noConfusion h,rfl,rfl⟩
 rintro _ _ _ ⟨i,c,go,k,b,d,r,rfl,hi,hk,hl,hb,hd,ht,rfl,rfl⟩
 refine⟨rfl,?_⟩
 subst hk
 by_cases hlt:i<P.length
 ·have hs:=List.take_succ_eq_append_getElem hlt
  have hab:∀y∈P.drop (i+1),Op.bytesLess (P[i]).key y.key=true:=fun y hy=>by
   obtain⟨j,hj,rfl⟩:=List.mem_drop_iff_getElem.1 hy
   exact hI.get (show i<i+1+j by omega) (by omega)
  have htk:∀{R:GP→Prop},(∀ y∈P.take i,R y)→R P[i]→∀y∈P.take (i+1),R y:=fun{R} h1 h2 y hy=>by
   rw[hs]at hy
   rcases List.mem_append.1 hy with hy|hy
   ·exact h1 y hy
   ·obtain rfl:=List.mem_singleton.1 hy;exact h2
  cases d
  ·obtain⟨rfl,hlo⟩:=hd rfl
   (conv=>whnf);repeat' (first|(refine Aa h0 ?_;rintro _ rfl;conv=>whnf)|(refine IB (x:=P[i]) OB (by simp) (by simp;omega) ?_;conv=>whnf)|(refine kA ?_;conv=>whnf)|(refine Br.mk (fun hc=>?_) fun hc=>?_<;>first|exact hc.elim|conv=>whnf)|(refine kB ?_))
   all_goals first
        |(exfalso;have e1:Op.bytesLess (P[i]).key key=true:=by assumption
          rw[hc,Ah.LX]at e1;cases e1)
        |(have hgt:Op.bytesLess key (P[i]).key=true:=by
           cases hx:Op.bytesLess key (P[i]).key with
           |true=>rfl
           |false=>exact absurd (Ah.tot _ _ (by assumption) hx) hc
          exact again.mk ⟨_,by omega,i+1,_,_,_,_,_,P.take i++[P[i]],rfl,by omega,by rw[List.length_append,List.length_singleton],by rw[List.length_append,List.length_singleton,List.length_take];omega,fun h=>Bool.noConfusion h,fun h=>Bool.noConfusion h,fun _=>⟨by rw[hs,TY Ah hgt,QZ Ah hlo],fun y hy=>Ah.tr _ _ _ hgt (hab y hy)⟩,rfl,rfl⟩)
        |exact again.mk ⟨_,by omega,i+1,_,_,_,_,_,P.take i,rfl,by omega,rfl,by rw[List.length_take];omega,hb,fun h=>Bool.noConfusion h,fun _=>⟨by rw[hs,Aak Ah hlo hc],fun y hy=>by have:=hab y hy;rw[hc]at this;exact this⟩,rfl,rfl⟩
        |exact again.mk ⟨_,by omega,i+1,_,_,_,_,_,P.take i++[P[i]],rfl,by omega,by rw[List.length_append,List.length_singleton],by rw[List.length_append,List.length_singleton,List.length_take];omega,fun h=>Bool.noConfusion h,fun _=>⟨hs.symm,htk hlo (by assumption)⟩,fun h=>Bool.noConfusion h,rfl,rfl⟩
  ·obtain⟨rfl,hhi⟩:=ht rfl
   have hgt:Op.bytesLess key (P[i]).key=true:=hhi _ (by rw[List.drop_eq_getElem_cons hlt];exact List.mem_cons_self)
   (conv=>whnf);repeat' (first|(refine IB (x:=P[i]) OB (by simp) (by simp;omega) ?_;conv=>whnf)|(refine kA ?_;conv=>whnf)|(refine Br.mk (fun hc=>?_) fun hc=>?_<;>first|exact hc.elim|conv=>whnf)|(refine kB ?_))
   all_goals first
        |(exfalso;rw[hc,Ah.LX]at hgt;cases hgt)
        |exact again.mk ⟨_,by omega,i+1,_,_,_,_,_,Cj Op.bytesLess GP.key key (P.take i)++[P[i]],rfl,by omega,by simp,by simp;omega,fun h=>Bool.noConfusion h,fun h=>Bool.noConfusion h,fun _=>⟨by rw[hs,TY Ah hgt],fun y hy=>Ah.tr _ _ _ hgt (hab y hy)⟩,rfl,rfl⟩
 ·obtain rfl:i=P.length:=by omega
  rw[List.take_length]at hd ht
  cases d
  ·obtain⟨rfl,hlo⟩:=hd rfl
   rw[QZ Ah hlo]
   (conv=>whnf);repeat' (first|(refine Aa h0 ?_;rintro _ rfl;conv=>whnf)|(refine kA ?_;conv=>whnf)|(refine Br.mk (fun hc=>?_) fun hc=>?_<;>first|exact hc.elim|conv=>whnf)|(refine kB ?_))
   all_goals first|(exfalso;omega)|(refine ⟨b,hb,congrArg (fun z=>AV.Cc [AV.sl b _,AV.bool z]) ?_⟩;symm;first|exact decide_eq_true (by omega)|exact decide_eq_false (by omega))
  ·obtain⟨rfl,_⟩:=ht rfl
   (conv=>whnf);repeat' (first  |(refine kA ?_;conv=>whnf)|(refine Br.mk (fun hc=>?_) fun hc=>?_<;>first|exact hc.elim|conv=>whnf)|(refine kB ?_))
   all_goals first|(exfalso;omega)|(refine ⟨b,hb,congrArg (fun z=>AV.Cc [AV.sl b _,AV.bool z]) ?_⟩;symm;first|exact decide_eq_true (by omega)|exact decide_eq_false (by omega))
theorem Ac4 {l:List (List UInt8)} {nn:Bool} {x:List UInt8} (hl:l.length≤100000) (hI:Inc Op.bytesLess id l):Af (Ad tab) 104 [.sl nn (vs .str l),.str x] (fun v=>∃b,(b=false→Cj Op.bytesLess id x l=[])∧v=.sl b (vs .str (Cj Op.bytesLess id x l))):=by
 rw[KJ Ah hI]
 refine Ac rfl rfl ?_
 (conv=>whnf);repeat' (first  |(refine kA ?_;conv=>whnf)|(refine Br.mk (fun hc=>?_) fun hc=>?_<;>first|exact hc.elim|conv=>whnf)|(refine kB ?_))
 refine Ak (fun m env s=>∃(i c go k:Nat) (b:Bool) (r:List (List UInt8)),m=l.length-i∧i≤l.length∧k=r.length∧r.length≤i∧(b=false→r=[])∧r=(l.take i).filter (fun a=>decide (id a≠x))∧env=[(0,.sl nn (vs .str l)),(1,.str x),(5,.own 0 go 0 k),(6,.int .i64 i)]∧s=⟨[.arr go 1 b true (vs .str r)],c⟩) ?_ _ _ _ ⟨0,_,_,0,_,[],rfl,by omega,rfl,by simp,fun _=>rfl,by simp,rfl,rfl⟩
 rintro _ _ _ ⟨i,c,go,k,b,r,rfl,hi,hk,hr,hb,hx,rfl,rfl⟩
 refine⟨rfl,?_⟩
 by_cases hlt:i<l.length
 ·have hs:=List.take_succ_eq_append_getElem hlt
  (conv=>whnf);repeat' (first|(refine IB (x:=l[i]) (fun _=>rfl) hk (by omega) ?_;conv=>whnf)|(refine kA ?_;conv=>whnf)|(refine Br.mk (fun hc=>?_) fun hc=>?_<;>first|exact hc.elim|conv=>whnf)|(refine kB ?_))
  ·exact again.mk ⟨_,by omega,i+1,_,_,_,_,r,rfl,by omega,hk,by omega,hb,by rw[hs,List.filter_append,←hx,List.filter_cons_of_neg (by simpa using hc),List.filter_nil,List.append_nil],rfl,rfl⟩
  ·exact again.mk ⟨_,by omega,i+1,_,_,_,_,r++[l[i]],rfl,by omega,by simp,by simp;omega,fun h=>Bool.noConfusion h,by rw[hs,List.filter_append,←hx,List.filter_cons_of_pos (by simpa using hc),List.filter_nil],rfl,rfl⟩
 ·subst hk
  rw[List.take_of_length_le (by omega)]at hx
  (conv=>whnf);repeat' (first  |(refine kA ?_;conv=>whnf)|(refine Br.mk (fun hc=>?_) fun hc=>?_<;>first|exact hc.elim|conv=>whnf)|(refine kB ?_))
  subst hx
  exact⟨b,hb,by first|rfl|(rw [uV])⟩
theorem Aew {l:List (List UInt8)} {nn:Bool} {x:List UInt8} (hl:l.length≤100000) (hI:Inc Op.bytesLess id l) (hx:x∉l):Af (Ad tab) 103 [.sl nn (vs .str l),.str x] (· =.sl true (vs .str (AY Op.bytesLess id x l))):=by
 have hfin:∀i,i≤l.length→(∀ j (h:j<l.length),j<i→Op.bytesLess l[j] x=true)→(∀ h:i<l.length,Op.bytesLess l[i] x=false)→l.take i++[x]++l.drop i=AY Op.bytesLess id x l:=by
  intro i hi hlo hhi
  refine AtK.ins Ah ⟨hi,hlo,fun j hj hij=>?_⟩ (fun y hy e=>hx (by cases e;exact hy))
  rcases Nat.lt_or_ge i j with h1|h1
  ·have h2:=hI.get h1 hj
   cases h3:Op.bytesLess (id l[j]) (id x)with
   |false=>rfl
   |true=>have:=Ah.tr _ _ _ h2 h3;have h4:=hhi (by omega);exact absurd this (by rw[show Op.bytesLess (id l[i]) (id x)=false from h4];exact Bool.noConfusion)
  ·obtain rfl:i=j:=by omega
   exact hhi hj
 refine Ac rfl rfl ?_
 (conv=>whnf);repeat' (first  |(refine kA ?_;conv=>whnf)|(refine Br.mk (fun hc=>?_) fun hc=>?_<;>first|exact hc.elim|conv=>whnf)|(refine kB ?_))
 refine Ak (fun m env s=>∃(i c go:Nat) (b:Bool),m=l.length-i∧i≤l.length∧(∀ j (h:j<l.length),j<i→Op.bytesLess l[j] x=true)∧env=[(0,.sl nn (vs .str l)),(1,.str x),(5,.own 0 go 0 0),(6,.int .i64 i)]∧s=⟨[.arr go 1 b true (vs .str [])],c⟩) ?_ _ _ _ ⟨0,_,_,_,rfl,by omega,fun j _ h=>absurd h (by omega),rfl,rfl⟩
 rintro _ _ _ ⟨i,c,go,b,rfl,hi,hlo,rfl,rfl⟩
 refine⟨rfl,?_⟩
 have h1:=hfin i hi hlo
 have hne:∀h:i<l.length,l[i]≠x:=fun h e=>hx (by rw[← e];exact List.getElem_mem h)
 (conv=>whnf);repeat' (first|((with_reducible show need _ _);refine need.mk ⟨by (try rw[lV]);omega,by(try rw[lV]);omega⟩ ?_;conv=>whnf)|((with_reducible show need _ _);refine need.mk (F7 YW _) ?_;conv=>whnf)|((with_reducible show eqK _ _);apply F9;(· exact X4 _ _ _);conv=>whnf)|(refine Aki rfl YW (by first|rfl|(simp;done)|(simp;omega)) (by simp;omega) (by first|assumption|exact fun _=>rfl|exact fun h=>Bool.noConfusion h) ?_;intro b1 hb1;conv=>whnf)|(refine IB (x:=x) YW (by first|rfl|(simp;done)|(simp;omega)) (by simp;omega) ?_;conv=>whnf)|(refine kA ?_;conv=>whnf)|(refine Br.mk (fun hc=>?_) fun hc=>?_<;>first|exact hc.elim|conv=>whnf)|(refine kB ?_))
 all_goals first
  |exact again.mk ⟨_,by omega,i+1,_,_,_,rfl,by omega,fun j h hj=>by
        by_cases e:j=i
        ·subst e;assumption
        ·exact hlo j h (by omega),rfl,rfl⟩
  |(exfalso;exact hne (by omega) (by assumption))
  |(cases b1
    ·exact absurd (hb1 rfl) (by simp)
    ·rw[AeF]
     refine congrArg (fun z=>AV.sl true (vs .str z)) ?_
     rw[← h1 (fun h=>by first|assumption|(exfalso;omega))]
     simp[List.take_of_length_le])
section
variable {α κ:Type} {lt:κ→κ→Bool} {key:α→κ} {f:α→α}
theorem AaA (hk:∀a,key (f a)=key a) {k:κ} {l:List α}:(below lt key k l).map f=below lt key k (l.map f):=by
 unfold below;rw[List.filter_map];congr 1;refine List.filter_congr fun x _=>?_;simp[hk]
theorem AaB (hk:∀a,key (f a)=key a) {k:κ} {l:List α}:(above lt key k l).map f=above lt key k (l.map f):=by
 unfold above;rw[List.filter_map];congr 1;refine List.filter_congr fun x _=>?_;simp[hk]
theorem WR (hk:∀a,key (f a)=key a) {x:α} {l:List α}:(AY lt key x l).map f=AY lt key (f x) (l.map f):=by
 unfold AY;rw[List.map_append,List.map_append,AaA hk,AaB hk,hk];rfl
end
def Td (n:GN):GN:=⟨n.id,true,n.labels,true,n.props⟩
def WS (e:GE):GE:=⟨e.id,e.fr,e.to,e.ty,true,e.props⟩
def GH (g:GG):GG:=⟨true,g.nodes.map Td,true,g.edges.map WS,g.Bl,g.Bq⟩
theorem Aea (n:GN):GN.id (Td n)=GN.id n:=rfl
theorem Aeb (n:GE):GE.id (WS n)=GE.id n:=rfl
def Yt (a b:Int×GG):Prop:=a.1=b.1∧GH a.2=GH b.2
theorem Yt.trans {a b c:Int×GG} (h:Yt a b) (k:Yt b c):Yt a c:=⟨h.1.trans k.1,h.2.trans k.2⟩
theorem Yt.symm {a b:Int×GG} (h:Yt a b):Yt b a:=⟨h.1.symm,h.2.symm⟩
theorem Jp {n:GN} {s:List UInt8} (hl:n.labels.length<2^63):Af (Ad tab) 101 [n.av,.str s] (· =.bool (decide (s∈n.labels))):=by
 refine Ac rfl rfl ?_
 (conv=>whnf);repeat' (first|(refine kA ?_;conv=>whnf)|(refine Br.mk (fun hc=>?_) fun hc=>?_<;>first|exact hc.elim|conv=>whnf)|(refine BM (Ah1 hl) (fun hc=>?_) (fun hc=>?_)<;>conv=>whnf)|(refine kB ?_))
 all_goals first|exact Bv (by assumption)|exact AB (by assumption)
end AI
end Go.Proofs.YtgmgkkbpgndaaaaGreatDoor
