/- The reference's Apply and ApplyAll are the program's, but for flags. A check does not look at flags: plain. degree.Update and the reference's: the same, but for flags. Sums of degree sequences: plain. One edge more at the end: counts, sequences and sums. Plain. degree.Edges and degree.Max of statistics. Lists in the order of a key, looked up by key: plain. The budget of a graph; names and types; entries. Looking for the first: good properties. Small values. A value cloned reads as the value. Clones: they read as what was cloned. The program looks up nodes and edges. Valid fractions: the reference's. The program's wide numbers: products, sums, signs; fractions compared. The reference's wide numbers: they are reckoned without a panic. The reference's comparison of a fraction with itself. Numbers by their digits to the base 1000: plain. The reference's wide numbers: what their product and their order are. Fractions compared: the program's way and the reference's. Valid values, exactly: the reference's. Numbers among values. The order of values: plain. -/
import Derived.Test.YthnehejdkajjhaaGreatDoorURcK
import Derived.Test.YthnehejdkajjhaaGreatDoorUApY
import Derived.Test.YthnehejdkajjhaaGreatDoorUCk8
import Derived.Test.YthnehejdkajjhaaGreatDoorUMap
import Derived.Test.YthnehejdkajjhaaGreatDoorUMag
import Derived.Test.YthnehejdkajjhaaGreatDoorUMah
import Derived.Test.YthnehejdkajjhaaGreatDoorUMaj
import Derived.Test.YthnehejdkajjhaaGreatDoorUMaq
import Derived.Test.YthnehejdkajjhaaGreatDoorBMaa
import Derived.Test.YthnehejdkajjhaaGreatDoorUMar
import Derived.Test.YthnehejdkajjhaaGreatDoorUMal
import Derived.Test.YthnehejdkajjhaaGreatDoorUMab
import Derived.Test.YthnehejdkajjhaaGreatDoorUMak
set_option linter.unusedVariables false
set_option maxRecDepth 4000
namespace Go.Proofs.YthnehejdkajjhaaGreatDoor
namespace AI
theorem Tf.Lu {g:GG} (h:Tf g) {n:GN} (hm:∃m∈g.nodes,m.id=n.id):Tf {g with nodes:=A8 BX GN.id n g.nodes}:=
 ⟨fun x hx=>by
  rcases Bq Ak hx with rfl|hx
  ·obtain⟨m,hm,e⟩:=hm;have:=h.n m hm;rw[e]at this;exact this
  ·exact h.n x hx,h.e⟩
theorem Tf.Tn {g:GG} (h:Tf g) {n:GE} (hm:∃m∈g.edges,m.id=n.id):Tf {g with edges:=A8 BX GE.id n g.edges}:=
 ⟨h.n,fun x hx=>by
  rcases Bq Ak hx with rfl|hx
  ·obtain⟨m,hm,e⟩:=hm;have:=h.e m hm;rw[e]at this;exact this
  ·exact h.e x hx⟩
theorem max_lt {a b c:Int} (h:a<b):a<(if c>b then c else b):=by split<;>omega
theorem Aih {a b c:Int} (h:a<c):a<(if c>b then c else b):=by split<;>omega
theorem Tf.node {g:GG} (h:Tf g) {c:GC}:Tf (Ba g c).2:=by
 unfold Ba
 split
 ·split
  ·exact h
  split
  ·refine⟨fun x hx=>?_,h.e⟩
   rcases Bq Ak hx with rfl|hx
   ·exact Aih (by show c.id<c.id+1;omega)
   ·exact max_lt (h.n x hx)
  ·exact h
 split
 ·exact h
 rename_i n hf
 obtain⟨hn,hz⟩:=Et hf
 split
 ·split
  ·exact h
  ·exact⟨fun x hx=>h.n x (Ce hx),h.e⟩
 split
 ·split
  ·exact h
  split
  ·exact h.Lu ⟨n,hn,rfl⟩
  ·exact h
 split
 ·split
  ·exact h.Lu ⟨n,hn,rfl⟩
  ·exact h
 split
 ·exact h.Lu ⟨n,hn,rfl⟩
 split
 ·exact h.Lu ⟨n,hn,rfl⟩
 ·exact h
theorem Tf.edge {g:GG} (h:Tf g) {c:GC}:Tf (BD g c).2:=by
 unfold BD
 split
 ·split
  ·exact h
  split
  ·split
   ·refine⟨h.n,fun x hx=>?_⟩
    rcases Bq Ak hx with rfl|hx
    ·exact Aih (by show c.id<c.id+1;omega)
    ·exact max_lt (h.e x hx)
   ·exact h
  ·exact h
 split
 ·exact h
 rename_i n hf
 obtain⟨hn,hz⟩:=Et hf
 split
 ·exact⟨h.n,fun x hx=>h.e x (Ce hx)⟩
 split
 ·exact h.Tn ⟨n,hn,rfl⟩
 split
 ·exact h.Tn ⟨n,hn,rfl⟩
 ·exact h
theorem Tf.step {g:GG} (h:Tf g) {c:GC}:Tf (stepG g c).2:=by
 unfold stepG
 split
 ·exact h
 split
 ·exact h.node
 ·exact h.edge
theorem AdE {g:GG} (h:AZ g=0):Tf g:=by
 obtain⟨hf,hn,hN,hE⟩:=LU h
 refine⟨fun n hm=>?_,fun n hm=>?_⟩
 ·obtain⟨i,hi,rfl⟩:=List.getElem_of_mem hm
  exact(KP hi (hN i hi)).2.2.1
 ·obtain⟨i,hi,rfl⟩:=List.getElem_of_mem hm
  exact(MZ hi (hE i hi)).2.2.1
theorem JM {g h:GG} (e:BL g=BL h):g.nodes.length=h.nodes.length∧g.edges.length=h.edges.length:=by
 have h1:=congrArg (fun x=>x.nodes.length) e
 have h2:=congrArg (fun x=>x.edges.length) e
 simpa[BL]using And.intro h1 h2
theorem J6 {g h:GG} (e:BL g=BL h):g.nodes.map ET=h.nodes.map ET:=congrArg GG.nodes e
theorem J7 {g h:GG} (e:BL g=BL h):g.edges.map Gq=h.edges.map Gq:=congrArg GG.edges e
theorem Sm {g h:GG} (e:BL g=BL h):g.BF=h.BF∧g.BA=h.BA:=⟨congrArg (fun x=>x.BF) e,congrArg (fun x=>x.BA) e⟩
theorem Ao5 {g h:GG} (e:BL g=BL h) {P:GN→Prop} (hP:∀n,P (ET n)↔P n) (k:∀n∈g.nodes,P n):∀n∈h.nodes,P n:=by
 intro n hn
 have:ET n∈g.nodes.map ET:=by rw[J6 e];exact List.mem_map_of_mem hn
 obtain⟨m,hm,em⟩:=List.mem_map.1 this
 exact(hP n).1 (by rw[← em];exact(hP m).2 (k m hm))
theorem Aii {g h:GG} (e:BL g=BL h) {P:GE→Prop} (hP:∀n,P (Gq n)↔P n) (k:∀n∈g.edges,P n):∀n∈h.edges,P n:=by
 intro n hn
 have:Gq n∈g.edges.map Gq:=by rw[J7 e];exact List.mem_map_of_mem hn
 obtain⟨m,hm,em⟩:=List.mem_map.1 this
 exact(hP n).1 (by rw[← em];exact(hP m).2 (k m hm))
theorem Vs {α:Type} {f:α→α} {key:α→Int} (hk:∀a,key (f a)=key a) {l:List α}:Inc BX key (l.map f)↔Inc BX key l:=by
 unfold Inc
 rw[List.pairwise_map]
 simp only[hk]
theorem Ef.sam {g h:GG} (e:BL g=BL h) (a:Ef g):Ef h where
 lN:=by rw[← (JM e).1];exact a.lN
 lE:=by rw[← (JM e).2];exact a.lE
 iN:=by have:=a.iN;rw[← Vs Rw,J6 e,Vs Rw]at this;exact this
 iE:=by have:=a.iE;rw[← Vs Rx,J7 e,Vs Rx]at this;exact this
 aN:=Ao5 e (P:=YE) (fun n=>⟨fun h=>⟨h.1,h.2,h.3,h.4⟩,fun h=>⟨h.1,h.2,h.3,h.4⟩⟩) a.aN
 aE:=Aii e (P:=YF) (fun n=>⟨fun h=>⟨h.1,h.2⟩,fun h=>⟨h.1,h.2⟩⟩) a.aE
 bx:=by rw[← (Sm e).1];exact a.bx
 by_:=by rw[← (Sm e).2];exact a.by_
theorem Tf.sam {g h:GG} (e:BL g=BL h) (a:Tf g):Tf h where
 n:=Ao5 e (P:=fun n=>n.id<h.BF) (fun n=>Iff.rfl) (by rw[← (Sm e).1];exact a.n)
 e:=Aii e (P:=fun n=>n.id<h.BA) (fun n=>Iff.rfl) (by rw[← (Sm e).2];exact a.e)
theorem LY:EP.ok:=⟨by simp[Ln,EP],fun _=>rfl,by simp[EP],by simp[Ln,EP],fun _=>rfl,by simp[EP],by unfold I64 EP;dsimp only;omega,by unfold I64 EP;dsimp only;omega⟩
theorem AoK {g:GG} {c:GC} (hg:g.ok) (hc:c.ok) (hN:g.nodes.length≤2900) (hE:g.edges.length≤2900):Ag (Ac tab) 24 [g.av,c.av] (fun w=>∃h:GG,w=.BG [h.av,.int .i64 (BU g c).2]∧BL h=BL (BU g c).1∧h.ok):=by
 have hck:=VO hg
 by_cases h0:AZ g=0
 ·have hs:=Amg hg hN hE (Td h0) (AdE h0) hc
  rw[h0]at hck
  refine Ad rfl rfl ?_
  (conv=>whnf);repeat' (first|(refine Aa hck ?_;rintro _ rfl;conv=>whnf)|(refine Aa hs ?_;rintro _ ⟨h,rfl,q1,q2⟩;conv=>whnf)|(refine kA ?_;conv=>whnf)|(refine Br.mk (fun hc=>?_) fun hc=>?_<;>first|exact hc.elim|conv=>whnf)|(refine kB ?_))
  have hG:BU g c=if(stepG g c).1≠0 then(EP,(stepG g c).1)else((stepG g c).2,0):=by unfold BU;rw[if_neg (fun k=>k h0)]
  rw[hG]
  by_cases h1:(stepG g c).1=0
  ·rw[if_neg (fun k=>k h1),h1];exact⟨h,rfl,q1 h1⟩
  ·rw[if_pos h1];exact⟨h,rfl,by rw[q2 h1],by rw[q2 h1];exact LY⟩
 ·have hG:BU g c=(EP,AZ g):=by unfold BU;rw[if_pos h0]
  rw[hG]
  generalize AZ g=e at hck h0 ⊢
  refine Ad rfl rfl ?_
  (conv=>whnf);repeat' (first|(refine Aa hck ?_;rintro _ rfl;conv=>whnf)|(refine kA ?_;conv=>whnf)|(refine Br.mk (fun hc=>?_) fun hc=>?_<;>first|exact hc.elim|conv=>whnf)|(refine kB ?_))
  all_goals first|exact⟨EP,rfl,rfl,LY⟩|(exfalso;omega)
theorem Afh {N:List GN} {nx:Int} {i:Nat}:ER (N.map ET) nx i=ER N nx i:=by
 unfold ER
 simp only[List.getElem?_map]
 cases N[i]? with
 |none=>rfl
 |some n=>
  cases N[i-1]? with
  |none=>simp[ET]
  |some k=>simp[ET]
theorem Ag8 {N:List GN}:Hw (N.map ET)=Hw N:=by unfold Hw;rw[List.map_map];rfl
theorem Afi {N:List GN} {E:List GE} {nx:Int} {i:Nat}:EX (N.map ET) (E.map Gq) nx i=EX N E nx i:=by
 unfold EX
 simp only[List.getElem?_map,Ag8]
 cases E[i]? with
 |none=>rfl
 |some n=>
  cases E[i-1]? with
  |none=>simp[Gq]
  |some k=>simp[Gq]
theorem Ny {g h:GG} (e:BL g=BL h):AZ g=AZ h:=by
 have key:∀g:GG,AZ (BL g)=AZ g:=fun g=>by
  have e1:(BL g).nodes.length=g.nodes.length:=List.length_map ..
  have e2:(BL g).edges.length=g.edges.length:=List.length_map ..
  have n1:ER (BL g).nodes (BL g).BF=ER g.nodes g.BF:=funext fun i=>Afh
  have n2:EX (BL g).nodes (BL g).edges (BL g).BA=EX g.nodes g.edges g.BA:=funext fun i=>Afi
  have f:Gs (BL g)↔Gs g:=by unfold Gs;rw[e1,e2]
  have x:Hy (BL g)↔Hy g:=Iff.rfl
  unfold AZ
  rw[n1,n2,e1,e2]
  simp only[f,x]
 rw[← key g,e,key h]
theorem SX {N:List GN}:EH (N.map ET)=EH N:=by unfold EH;rw[List.flatMap_map];rfl
theorem UN {E:List GE}:typesOf (E.map Gq)=typesOf E:=by unfold typesOf;rw[List.map_map];rfl
theorem Ab3 {N:List GN} {x:List UInt8}:Ij (N.map ET) x=Ij N x:=by unfold Ij;rw[List.map_map];rfl
theorem Ab4 {E:List GE} {x:List UInt8}:Em (E.map Gq) x=Em E x:=by unfold Em;rw[List.map_map];rfl
theorem Ab5 {x:List UInt8} {dir:Int} {N:List GN} {E:List GE}:Oe x dir (N.map ET) (E.map Gq)=Oe x dir N E:=by
 unfold Oe MH
 simp only[List.map_map]
 rfl
def NP (g:GG) (a:ST):Prop:=∃R T,a.nodes=g.nodes.length∧a.edges=g.edges.length∧a.labels=cnts (Ij g.nodes) R∧a.types=cnts (Em g.edges) T∧a.outs.map Prod.snd=T.map (Ol g 1)∧a.ins.map Prod.snd=T.map (Ol g 2)∧
 XL R∧(∀ x,x∈R↔x∈EH g.nodes)∧XL T∧(∀ x,x∈T↔x∈typesOf g.edges)
theorem NP.eqv {g:GG} {a b:ST} (h:NP g a) (k:NP g b):a.eqv b:=by
 obtain⟨R,T,a1,a2,a3,a4,a5,a6,i1,m1,i2,m2⟩:=h
 obtain⟨R',T',b1,b2,b3,b4,b5,b6,i1',m1',i2',m2'⟩:=k
 obtain rfl:=Xg i1 i1' fun x=>by rw[m1,m1']
 obtain rfl:=Xg i2 i2' fun x=>by rw[m2,m2']
 exact⟨a1.trans b1.symm,a2.trans b2.symm,a3.trans b3.symm,a4.trans b4.symm,a5.trans b5.symm,a6.trans b6.symm⟩
theorem NP.ArO {g h:GG} (eN:g.nodes.map ET=h.nodes.map ET) (eE:g.edges.map Gq=h.edges.map Gq) {a:ST} (k:NP g a):NP h a:=by
 obtain⟨R,T,a1,a2,a3,a4,a5,a6,i1,m1,i2,m2⟩:=k
 have l1:=congrArg List.length eN
 have l2:=congrArg List.length eE
 rw[List.length_map,List.length_map]at l1 l2
 have hs:∀dir x,Ol g dir x=Ol h dir x:=fun dir x=>by
  unfold Ol
  rw[← Ab5 (N:=g.nodes),eN,eE,Ab5]
 refine⟨R,T,by rw[a1,l1],by rw[a2,l2],?_,?_,?_,?_,i1,fun x=>?_,i2,fun x=>?_⟩
 ·rw[a3];congr 1;funext x;rw[← Ab3 (N:=g.nodes),eN,Ab3]
 ·rw[a4];congr 1;funext x;rw[← Ab4 (E:=g.edges),eE,Ab4]
 ·rw[a5];congr 1;funext x;exact hs 1 x
 ·rw[a6];congr 1;funext x;exact hs 2 x
 ·rw[m1,←SX (N:=g.nodes),eN,SX]
 ·rw[m2,←UN (E:=g.edges),eE,UN]
theorem NP.sam {g h:GG} (e:BL g=BL h) {a:ST} (k:NP g a):NP h a:=k.ArO (J6 e) (J7 e)
theorem NP.fine {g:GG} {a:ST} (h:NP g a) (hN:g.nodes.length≤2000) (hE:g.edges.length≤4000) (hL:∀n∈g.nodes,n.labels.length≤2000):a.fine:=by
 obtain⟨R,T,a1,a2,a3,a4,a5,a6,i1,m1,i2,m2⟩:=h
 have lR:=IV (IU i1) fun x hx=>(m1 x).1 hx
 have lR2:=VH (R:=R) hL
 have lT:=IV (IU i2) fun x hx=>(m2 x).1 hx
 simp only[typesOf,List.length_map]at lT
 have l5:=congrArg List.length a5
 have l6:=congrArg List.length a6
 rw[List.length_map,List.length_map]at l5 l6
 refine⟨?_,?_,by omega,by omega,VA hN a5,VA hN a6⟩
 ·rw[a3];simp only[cnts,List.length_map];omega
 ·rw[a4];simp only[cnts,List.length_map];omega
def KJ:ST:=⟨0,0,false,[],false,[],false,[],false,[]⟩
theorem Ab6:KJ.fine:=⟨by simp[KJ],by simp[KJ],by simp[KJ],by simp[KJ],by simp[KJ],by simp[KJ]⟩
theorem ZW {g:GG} (hg:g.ok) (hN:g.nodes.length≤2000) (hE:g.edges.length≤4000):∃a:ST,a.fine∧(AZ g=0→NP g a)∧(AZ g≠0→a=KJ)∧Ag (Ac tab) 25 [g.av] (· =.BG [a.av,.int .i64 (AZ g)]):=by
 by_cases hck:AZ g=0
 ·have h8:=AjX hck
  have hL:∀n∈g.nodes,n.labels.length≤2000:=fun n hn=>by have:=h8 n hn;omega
  obtain⟨x1,⟨ln,tn,un,vn,R,T,O,I,rfl,i1,m1,i2,m2,s1,s2⟩,e1⟩:=(ofP hg hN hE hck hL).IJ
  have hS:NP g ⟨g.nodes.length,g.edges.length,ln,cnts (Ij g.nodes) R,tn,cnts (Em g.edges) T,un,O,vn,I⟩:=⟨R,T,rfl,rfl,rfl,rfl,s1.1,s2.1,i1,m1,i2,m2⟩
  refine⟨_,hS.fine hN hE hL,fun _=>hS,fun h=>absurd hck h,?_⟩
  rw[hck]
  exact e1
 ·exact⟨KJ,Ab6,fun h=>absurd h hck,fun _=>rfl,Aua hg hck⟩
theorem Avg {s t u:ST} {g h:GG} {c:GC} {e1 e2 e3:Int} (hO:Ag (Ac tab) 25 [g.av] (· =.BG [t.av,.int .i64 e1])) (hA:Ag (Ac tab) 57 [g.av,c.av] (· =.BG [h.av,.int .i64 e2])) (hO2:Ag (Ac tab) 25 [h.av] (· =.BG [u.av,.int .i64 e3]))
 (hS:Ag (Ac tab) 56 [s.av,t.av] (· =.bool (decide (s.eqv t)))):
 Ag (Ac tab) 26 [s.av,g.av,c.av] (· =if e1=0∧s.eqv t then(if e2=0 then .BG [u.av,.int .i64 e3]else .BG [KJ.av,.int .i64 e2])else .BG [KJ.av,.int .i64 19]):=by
 by_cases h1:e1=0
 case neg=>
  rw[if_neg (fun k=>h1 k.1)]
  refine Ad rfl rfl ?_
  (conv=>whnf);repeat' (first|(refine Aa hO ?_;rintro _ rfl;conv=>whnf)|(refine kA ?_;conv=>whnf)|(refine Br.mk (fun hc=>?_) fun hc=>?_<;>first|exact hc.elim|conv=>whnf)|(refine kB ?_))
  all_goals first|rfl|(exfalso;omega)
 by_cases h2:s.eqv t
 case neg=>
  rw[if_neg (fun k=>h2 k.2)]
  rw[decide_eq_false h2]at hS
  refine Ad rfl rfl ?_
  (conv=>whnf);repeat' (first|((first|refine Aa hO ?_|refine Aa hS ?_);rintro _ rfl;conv=>whnf)|(refine kA ?_;conv=>whnf)|(refine Br.mk (fun hc=>?_) fun hc=>?_<;>first|exact hc.elim|conv=>whnf)|(refine kB ?_))
  all_goals first|rfl|(exfalso;omega)
 rw[if_pos ⟨h1,h2⟩]
 rw[decide_eq_true h2]at hS
 by_cases h3:e2=0
 ·rw[if_pos h3]
  refine Ad rfl rfl ?_
  (conv=>whnf);repeat' (first|((first|refine Aa hO ?_|refine Aa hS ?_|refine Aa hA ?_|refine Aa hO2 ?_);rintro _ rfl;conv=>whnf)|(refine kA ?_;conv=>whnf)|(refine Br.mk (fun hc=>?_) fun hc=>?_<;>first|exact hc.elim|conv=>whnf)|(refine kB ?_))
  all_goals first|rfl|(exfalso;omega)
 ·rw[if_neg h3]
  refine Ad rfl rfl ?_
  (conv=>whnf);repeat' (first|((first|refine Aa hO ?_|refine Aa hS ?_|refine Aa hA ?_);rintro _ rfl;conv=>whnf)|(refine kA ?_;conv=>whnf)|(refine Br.mk (fun hc=>?_) fun hc=>?_<;>first|exact hc.elim|conv=>whnf)|(refine kB ?_))
  all_goals first|rfl|(exfalso;omega)
theorem AfE {g:GG} {c:GC}:(BU g c).1.nodes.length≤g.nodes.length+1∧(BU g c).1.edges.length≤g.edges.length+1:=by
 unfold BU
 split
 ·exact⟨Nat.zero_le _,Nat.zero_le _⟩
 split
 ·exact⟨Nat.zero_le _,Nat.zero_le _⟩
 ·exact VP g c
theorem Aby {g:GG} {c:GC} (hg:g.ok) (hc:c.ok):(BU g c).1.ok:=by
 unfold BU
 split
 ·exact LY
 rename_i h0
 split
 ·exact LY
 ·exact Aes hg (Td (Classical.not_not.1 h0)) hc
theorem AfF {E:List GE} {e:GE} {x:List UInt8}:Em (E++[e]) x=Em E x+tyI x e:=by
 unfold Em
 rw[List.map_append,Ls]
 simp[EU]
theorem Af2 {typ:List UInt8} {dir n:Int} {E:List GE} {e:GE}:MH typ dir E n≤MH typ dir (E++[e]) n:=by
 unfold MH
 rw[List.map_append,Ls]
 have:0≤XV typ dir n e:=by unfold XV;split<;>omega
 simp only[List.map_cons,List.map_nil,EU]
 omega
theorem AjF {W:List Int} (h:desc W) {x:Int} (hx:x∈W):x≤W.headD 0:=by
 cases W with
 |nil=>simp at hx
 |cons y l=>
  rcases List.mem_cons.1 hx with rfl|hx
  ·exact Int.le_refl _
  ·exact(List.pairwise_cons.1 h).1 x hx
theorem Zf {W:List Int} (h:W≠[]):W.headD 0∈W:=by
 cases W with
 |nil=>exact absurd rfl h
 |cons y l=>exact List.mem_cons_self ..
theorem XE {g:GG} {dir:Int} {x:List UInt8} {y:Int}:y∈Ol g dir x↔y∈Oe x dir g.nodes g.edges:=(MW (k:=id)).mem_iff
theorem Af3 {g:GG} {dir:Int} {x:List UInt8}:desc (Ol g dir x):=Qx
theorem XF {x:List UInt8} {dir:Int} {N:List GN} {E:List GE} {y:Int}:y∈Oe x dir N E↔0<y∧∃n∈N,MH x dir E n.id=y:=by
 unfold Oe
 rw[List.mem_filter,List.mem_map]
 constructor
 ·rintro⟨⟨n,hn,e⟩,h⟩;exact⟨of_decide_eq_true h,n,hn,e⟩
 ·rintro⟨h,n,hn,e⟩;exact⟨⟨n,hn,e⟩,decide_eq_true h⟩
def Uc (g:GG) (dir:Int) (x:List UInt8):Int:=(Ol g dir x).headD 0
theorem ZU {g:GG} {dir:Int} {x:List UInt8}:0≤Uc g dir x∧Uc g dir x≤g.edges.length:=by
 unfold Uc
 by_cases h:Ol g dir x=[]
 ·rw[h];exact⟨Int.le_refl _,by simp⟩
 ·have hm:=Zf h
  rw[XE,XF]at hm
  obtain⟨h1,n,_,e⟩:=hm
  have:=@WO x dir n.id g.edges
  omega
theorem Af4 {g h:GG} {dir:Int} {x:List UInt8} {e:GE} (hn:h.nodes=g.nodes) (he:h.edges=g.edges++[e]):Uc g dir x≤Uc h dir x:=by
 by_cases h0:Ol g dir x=[]
 ·have:Uc g dir x=0:=by unfold Uc;rw[h0];rfl
  rw[this];exact ZU.1
 ·have hm:=Zf h0
  rw[XE,XF]at hm
  obtain⟨h1,n,hnm,e1⟩:=hm
  have h2:=@Af2 x dir n.id g.edges e
  have h3:MH x dir h.edges n.id∈Ol h dir x:=by
   rw[XE,XF,he,hn]
   exact⟨by omega,n,hnm,rfl⟩
  have h4:=AjF Af3 h3
  unfold Uc
  rw[he]at h4
  omega
theorem AjG {α:Type} {f g:α→Int}:∀{l:List α},(∀ x∈l,f x≤g x)→EU (l.map f)≤EU (l.map g)
 |[],_=>Int.le_refl _
 |x::l,h=>by
  have h1:=h x (List.mem_cons_self ..)
  have h2:=AjG (l:=l) fun y hy=>h y (List.mem_cons_of_mem _ hy)
  simp only[List.map_cons,EU];omega
theorem AjH {α:Type} {f:α→Int}:∀{m:List α},(∀ x∈m,0≤f x)→0≤EU (m.map f)
 |[],_=>Int.le_refl _
 |x::l,h=>by
  have h1:=h x (List.mem_cons_self ..)
  have h2:=AjH (m:=l) fun y hy=>h y (List.mem_cons_of_mem _ hy)
  simp only[List.map_cons,EU];omega
theorem AeT {α:Type} [DecidableEq α] {f:α→Int}:∀{l m:List α},l.Nodup→(∀ x∈l,x∈m)→(∀ x∈m,0≤f x)→EU (l.map f)≤EU (m.map f)
 |[],m,_,_,h=>AjH h
 |x::l,m,hn,hs,h=>by
  have hn':=List.nodup_cons.1 hn
  have hx:=hs x (List.mem_cons_self ..)
  have hp:=List.perm_cons_erase hx
  have h1:=AeT (l:=l) (m:=m.erase x) hn'.2 (fun y hy=>(List.mem_erase_of_ne (fun e:y=x=>hn'.1 (by rw[← e];exact hy))).2 (hs y (List.mem_cons_of_mem _ hy))) fun y hy=>h y (List.mem_of_mem_erase hy)
  rw[Af5 hp]
  simp only[List.map_cons,EU]
  omega
theorem AfG {g h:GG} {dir:Int} {e:GE} {T T':List (List UInt8)} (hn:h.nodes=g.nodes) (he:h.edges=g.edges++[e]) (hT:T.Nodup) (m1:∀x,x∈T↔x∈typesOf g.edges) (m2:∀x,x∈T'↔x∈typesOf h.edges):
 EU (T.map (Uc g dir))≤EU (T'.map (Uc h dir)):=by
 refine Int.le_trans (AjG fun x _=>Af4 hn he) ?_
 refine AeT hT (fun x hx=>?_) fun x _=>ZU.1
 rw[m2,he]
 have:=(m1 x).1 hx
 unfold typesOf at this ⊢
 rw[List.map_append]
 exact List.mem_append_left _ this
def OO (l:List CN) (k:List UInt8):Int:=match l.find? (fun c=>decide (c.name=k))with
 |some c=>c.n
 |none=>0
theorem YH {f:List UInt8→Int} {k:List UInt8}:∀{R:List (List UInt8)},(k∉R→f k=0)→OO (cnts f R) k=f k
 |[],h=>by rw[h (by simp)];rfl
 |x::R,h=>by
  unfold OO cnts
  simp only[List.map_cons,List.find?_cons]
  by_cases e:x=k
  ·subst e
   rw[decide_eq_true rfl]
  ·rw[decide_eq_false e]
   exact YH (R:=R) fun hk=>h (by simp[hk,Ne.symm e])
theorem AfD {E:List GE} {k:List UInt8} (h:k∉typesOf E):Em E k=0:=by
 unfold Em
 refine(AdA (g:=fun _=>0) fun e he=>if_neg fun ee=>h ?_).trans Zg
 exact List.mem_map.2 ⟨e,he,ee⟩
theorem AkM {l:List CN} {k:List UInt8} {i:Nat} (hi:i<l.length) (h:∀x∈l.take i,x.name≠k) (hp:(l[i]).name=k):OO l k=(l[i]).n:=by
 unfold OO
 have e:l.find? (fun c=>decide (c.name=k))=some l[i]:=by
  have e:l=l.take i++l[i]::l.drop (i+1):=by rw[← List.drop_eq_getElem_cons hi,List.take_append_drop]
  have h1:(l.take i).find? (fun c=>decide (c.name=k))=none:=List.find?_eq_none.2 fun x hx=>by simp[h x hx]
  refine(congrArg (List.find? _) e).trans ?_
  rw[List.find?_append,h1,List.find?_cons_of_pos (by simpa using hp)]
  rfl
 rw[e]
theorem AkN {l:List CN} {k:List UInt8} (h:∀x∈l,x.name≠k):OO l k=0:=by
 unfold OO
 rw[List.find?_eq_none.2 fun x hx=>by simp[h x hx]]
theorem Aou {l:List CN} {nn:Bool} {k:List UInt8} (hl:l.length<2^62):Ag (Ac tab) 60 [.sl nn (vs CN.av l),.str k] (· =.int .i64 (OO l k)):=by
 refine Ad rfl rfl ?_
 (conv=>whnf);repeat' (first  |(refine kA ?_;conv=>whnf)|(refine Br.mk (fun hc=>?_) fun hc=>?_<;>first|exact hc.elim|conv=>whnf)|(refine kB ?_))
 refine Af (fun m env s=>∃i c:Nat,m=l.length-i∧(∀ x∈l.take i,x.name≠k)∧env=[(1,.str k),(7,.sl nn (vs CN.av l)),(8,.int .i64 l.length),(9,.int .i64 i)]∧s=⟨[],c⟩) ?_ _ _ _ ⟨0,_,rfl,by simp,by rw[← lV (f:=CN.av) l];rfl,rfl⟩
 rintro _ _ _ ⟨i,c,rfl,hx,rfl,rfl⟩
 refine⟨rfl,?_⟩
 by_cases hlt:i<l.length
 ·by_cases he:(l[i]).name=k
  ·have hc0:=AkM hlt hx he
   (conv=>whnf);repeat' (first  |(refine kA ?_;conv=>whnf)|(refine Br.mk (fun hc=>?_) fun hc=>?_<;>first|exact hc.elim|conv=>whnf)|(refine kB ?_))
   all_goals first|(rw [hc0];rfl)|exact absurd he (by assumption)|(exfalso;omega)
  ·(conv=>whnf);repeat' (first  |(refine kA ?_;conv=>whnf)|(refine Br.mk (fun hc=>?_) fun hc=>?_<;>first|exact hc.elim|conv=>whnf)|(refine kB ?_))
   all_goals first|exact again.mk ⟨_,by omega,i+1,_,rfl,Cb hlt hx he,rfl,rfl⟩|exact absurd (by assumption) he|(exfalso;omega)
 ·rw[List.take_of_length_le (by omega)]at hx
  have hc0:=AkN hx
  (conv=>whnf);repeat' (first  |(refine kA ?_;conv=>whnf)|(refine Br.mk (fun hc=>?_) fun hc=>?_<;>first|exact hc.elim|conv=>whnf)|(refine kB ?_))
  all_goals first|(rw [hc0];rfl)|(exfalso;omega)
theorem Ahs {s:ST}:Ag (Ac tab) 28 [s.av,.sl false []] (· =.int .i64 s.edges):=by
 refine Ad rfl rfl ?_
 (conv=>whnf);repeat' (first  |(refine kA ?_;conv=>whnf)|(refine Br.mk (fun hc=>?_) fun hc=>?_<;>first|exact hc.elim|conv=>whnf)|(refine kB ?_))
 all_goals first|rfl|exact absurd rfl (by assumption)|(exfalso;omega)
theorem Aht {s:ST} {k:List UInt8} (hf:s.types.length<2^62) (hz:0≤OO s.types k∧OO s.types k≤100000):Ag (Ac tab) 28 [s.av,.sl true [.str k]] (· =.int .i64 (OO s.types k)):=by
 have hcnt:=@Aou s.types s.tn k hf
 generalize OO s.types k=z at hcnt hz ⊢
 change Ag _ _ [_,.sl true (vs .str [k])] _
 obtain⟨ts,hts⟩:∃ts:List (List UInt8),ts=[k]:=⟨_,rfl⟩
 have ht1:ts.length=1:=by rw[hts];rfl
 have hk:∀h:0<ts.length,ts[0]=k:=fun h=>by subst hts;rfl
 rw[← hts]
 clear hts
 refine Ad rfl rfl ?_
 (conv=>whnf);repeat' (first  |(refine kA ?_;conv=>whnf)|(refine Br.mk (fun hc=>?_) fun hc=>?_<;>first|exact hc.elim|conv=>whnf)|(refine kB ?_))
 all_goals first|(exfalso;omega)|skip
 refine Af (fun m env st=>∃(j c:Nat) (y:Int),m=1-j∧(j=0∧y=0∨j=1∧y=z)∧env=[(2,.ref 0 0 0 0),(5,.int .i64 y),(13,.sl true (vs .str ts)),(14,.int .i64 ts.length),(15,.int .i64 j)]∧st=⟨[.arr 0 6 true true [s.av]],c⟩) ?_ _ _ _ ⟨0,_,0,rfl,.inl ⟨rfl,rfl⟩,rfl,rfl⟩
 rintro _ _ _ ⟨j,c,y,rfl,⟨rfl,rfl⟩|⟨rfl,rfl⟩,rfl,rfl⟩
 ·refine⟨rfl,?_⟩
  have hk0:=hk (by omega)
  rw[← hk0]at hcnt
  (conv=>whnf);repeat' (first|(refine Aa hcnt ?_;rintro _ rfl;conv=>whnf)|(refine kA ?_;conv=>whnf)|(refine Br.mk (fun hc=>?_) fun hc=>?_<;>first|exact hc.elim|conv=>whnf)|(refine kB ?_))
  all_goals first|exact again.mk ⟨_,by omega,1,_,_,rfl,.inr ⟨rfl,by omega⟩,rfl,rfl⟩|(exfalso;omega)
 ·refine⟨rfl,?_⟩
  (conv=>whnf);repeat' (first  |(refine kA ?_;conv=>whnf)|(refine Br.mk (fun hc=>?_) fun hc=>?_<;>first|exact hc.elim|conv=>whnf)|(refine kB ?_))
  all_goals first|rfl|(exfalso;omega)
theorem Afn {l:List Int} (h:0<l.length):l.headD 0=l[0]:=by cases l with|nil=>simp at h|cons a r=>rfl
theorem Aov {l:List (Bool×List Int)} {nn:Bool} {i:Nat} (hi:i<l.length) (hl:l.length<2^62) (hk:(l[i]).2.length<2^62):Ag (Ac tab) 61 [.sl nn (vs LV l),.int .i64 i] (· =.int .i64 ((l[i]).2.headD 0)):=by
 by_cases h0:(l[i]).2.length=0
 ·have e:(l[i]).2.headD 0=0:=by rw[List.length_eq_zero_iff.1 h0];rfl
  rw[e]
  refine Ad rfl rfl ?_
  (conv=>whnf);repeat' (first  |(refine kA ?_;conv=>whnf)|(refine Br.mk (fun hc=>?_) fun hc=>?_<;>first|exact hc.elim|conv=>whnf)|(refine kB ?_))
  all_goals first|rfl|(exfalso;omega)
 ·rw[Afn (by omega)]
  have hn:nth (vs (AV.int .i64) (l[i]).2) (Int.toNat 0)=some (.int .i64 ((l[i]).2[0]'(by omega))):=nV (by omega)
  refine Ad rfl rfl ?_
  (conv=>whnf);repeat' (first|(apply Au;(· exact hn);conv=>whnf)|(refine kA ?_;conv=>whnf)|(refine Br.mk (fun hc=>?_) fun hc=>?_<;>first|exact hc.elim|conv=>whnf)|(refine kB ?_))
  all_goals first|rfl|(exfalso;omega)
theorem Arm {s:ST} (hl:s.outs.length=s.types.length) (ht:s.types.length≤10000) (hk:∀p∈s.outs,p.2.length<2^62) (hb:∀p∈s.outs,0≤p.2.headD 0∧p.2.headD 0≤4000):
 Ag (Ac tab) 29 [s.av,.sl false [],.int .i64 1] (· =.int .i64 (EU (s.outs.map fun p=>p.2.headD 0))):=by
 refine Ad rfl rfl ?_
 (conv=>whnf);repeat' (first  |(refine kA ?_;conv=>whnf)|(refine Br.mk (fun hc=>?_) fun hc=>?_<;>first|exact hc.elim|conv=>whnf)|(refine kB ?_))
 all_goals first|(exfalso;omega)|exact absurd rfl (by assumption)|skip
 refine Af (fun m env st=>∃(i c:Nat) (z:Int),m=s.types.length-i∧i≤s.types.length∧z=EU ((s.outs.take i).map fun p=>p.2.headD 0)∧env=[(7,.sl s.on (vs LV s.outs)),(8,.int .i64 z),(27,.int .i64 s.types.length),(28,.int .i64 i)]∧st=⟨[.arr 0 6 true true [s.av]],c⟩) ?_ _ _ _ ⟨0,_,0,rfl,by omega,rfl,rfl,rfl⟩
 rintro _ _ _ ⟨i,c,z,rfl,hi,hz,rfl,rfl⟩
 refine⟨rfl,?_⟩
 by_cases hlt:i<s.types.length
 ·have hio:i<s.outs.length:=by omega
  have hg:=Aov (nn:=s.on) hio (by omega) (hk _ (List.getElem_mem hio))
  have h1:=hb _ (List.getElem_mem hio)
  have hs:=PN (f:=fun p:Bool×List Int=>p.2.headD 0) hio
  have h2:=KA (f:=fun p:Bool×List Int=>p.2.headD 0) (c:=4000) (l:=s.outs.take i) fun p hp=>hb p (List.mem_of_mem_take hp)
  rw[← hz,List.length_take]at h2
  rw[← hz]at hs
  generalize (s.outs[i]).2.headD 0=d at hg h1 hs
  clear hz
  (conv=>whnf);repeat' (first|(refine Aa hg ?_;rintro _ rfl;conv=>whnf)|(refine kA ?_;conv=>whnf)|(refine Br.mk (fun hc=>?_) fun hc=>?_<;>first|exact hc.elim|conv=>whnf)|(refine kB ?_))
  all_goals first|exact again.mk ⟨_,by omega,i+1,_,_,rfl,by omega,hs.symm,rfl,rfl⟩|(exfalso;omega)
 ·rw[List.take_of_length_le (by omega)]at hz
  subst hz
  (conv=>whnf);repeat' (first  |(refine kA ?_;conv=>whnf)|(refine Br.mk (fun hc=>?_) fun hc=>?_<;>first|exact hc.elim|conv=>whnf)|(refine kB ?_))
  all_goals first|rfl|(exfalso;omega)
section
variable {α κ:Type} {lt:κ→κ→Bool} {key:α→κ}
def lk [DecidableEq κ] (key:α→κ) (l:List α) (k:κ):Option α:=l.find? fun a=>decide (key a=k)
theorem EF [DecidableEq κ] {l:List α} {k:κ} {a:α} (h:lk key l k=some a):a∈l∧key a=k:=⟨List.mem_of_find?_eq_some h,of_decide_eq_true (List.find?_some (p:=fun a=>decide (key a=k)) h)⟩
theorem Di [DecidableEq κ] (hs:Ov lt):∀{l:List α},Inc lt key l→∀{a:α} {k:κ},a∈l→key a=k→lk key l k=some a
 |[],_,_,_,h,_=>by simp at h
 |b::l,hl,a,k,h,e=>by
  have hl':=List.pairwise_cons.1 hl
  unfold lk
  rcases List.mem_cons.1 h with rfl|hm
  ·rw[List.find?_cons,decide_eq_true e]
  ·have hb:key b≠k:=fun e2=>by
        have:=hl'.1 a hm
        rw[e,e2,hs.Oc]at this;cases this
   rw[List.find?_cons,decide_eq_false hb]
   exact Di hs hl'.2 hm e
theorem Aar [DecidableEq κ] (hs:Ov lt) {l:List α} (hl:Inc lt key l) {k:κ} {a:α}:lk key l k=some a↔a∈l∧key a=k:=⟨EF,fun h=>Di hs hl h.1 h.2⟩
theorem ne_iff (hs:Ov lt) {x y:κ}:(lt x y=true∨lt y x=true)↔x≠y:=by
 constructor
 ·rintro(h|h) rfl<;>(rw [hs.Oc]at h;cases h)
 ·intro h
  cases h1:lt x y
  ·cases h2:lt y x
   ·exact absurd (hs.tot _ _ h1 h2) h
   ·exact .inr rfl
  ·exact .inl rfl
theorem KT (hs:Ov lt) {x y:α} {l:List α}:y∈A8 lt key x l↔y=x∨y∈l∧key y≠key x:=by
 rw[← ne_iff hs]
 simp only[A8,below,above,List.mem_append,List.mem_filter,List.mem_singleton]
 constructor
 ·rintro((h|h)|h)
  ·exact .inr ⟨h.1,.inl h.2⟩
  ·exact .inl h
  ·exact .inr ⟨h.1,.inr h.2⟩
 ·rintro(h|⟨h,h2|h2⟩)
  ·exact .inl (.inr h)
  ·exact .inl (.inl ⟨h,h2⟩)
  ·exact .inr ⟨h,h2⟩
theorem Na (hs:Ov lt) {k:κ} {y:α} {l:List α}:y∈Cc lt key k l↔y∈l∧key y≠k:=by
 rw[← ne_iff hs]
 simp only[Cc,below,above,List.mem_append,List.mem_filter]
 constructor
 ·rintro(h|h)
  ·exact⟨h.1,.inl h.2⟩
  ·exact⟨h.1,.inr h.2⟩
 ·rintro⟨h,h2|h2⟩
  ·exact .inl ⟨h,h2⟩
  ·exact .inr ⟨h,h2⟩
theorem OU [DecidableEq κ] (hs:Ov lt) {x:α} {l:List α} (hl:Inc lt key l) {k:κ}:lk key (A8 lt key x l) k=if k=key x then some x else lk key l k:=by
 have hp:=EK (x:=x) hs hl
 by_cases e:k=key x
 ·rw[if_pos e]
  exact Di hs hp ((KT hs).2 (.inl rfl)) e.symm
 ·rw[if_neg e]
  apply Option.ext
  intro a
  rw[Aar hs hp,Aar hs hl,KT hs]
  constructor
  ·rintro⟨rfl|h,h2⟩
   ·exact absurd h2.symm e
   ·exact⟨h.1,h2⟩
  ·rintro⟨h,h2⟩
   exact⟨.inr ⟨h,by rw[h2];exact e⟩,h2⟩
theorem EI {l:List α} (h:Inc lt key l):(l.map key).Pairwise fun x y=>lt x y=true:=by
 rw[List.pairwise_map];exact h
end
def GY:Nat→AV→Prop
 |0,_=>False
 |d+1,a=>∃g:GV,a=g.av∧g.ok∧g.s.length≤101000∧g.l.length≤2000∧∀x∈g.l,GY d x
theorem wei:∀(d:Nat),d≤12→∀{g:GV} (hg:g.ok) {left:Int} (h1:-184467440737095530≤left) (h2:left≤2000),
 Ag (Ac tab) 31 [g.av,.int .i64 left,.int .i64 d] (fun v=>∃r,v=.int .i64 r∧-368934881474191048≤r∧r≤1999∧(0≤r→r+1≤left∧GY d g.av)):=by
 intro d
 induction d with
 |zero=>
  intro _ g hg left h1 h2
  obtain⟨g1,g2,g3,g4,g5,g6,g7⟩:=hg
  unfold Ln at g4 g5
  refine Ad rfl rfl ?_
  (conv=>whnf);repeat' (first|(refine kA ?_;conv=>whnf)|(refine Br.mk (fun hc=>?_) fun hc=>?_<;>first|exact hc.elim|conv=>whnf)|(refine WB (by omega) ?_;conv=>whnf)|(refine kB ?_))
  all_goals exact⟨_,rfl,by omega,by omega,fun h=>absurd h (by omega)⟩
 |succ d ih=>
  intro hd g hg left h1 h2
  obtain⟨g1,g2,g3,g4,g5,g6,g7⟩:=hg
  unfold Ln at g4 g5
  refine Ad rfl rfl ?_
  (conv=>whnf);repeat' (first|(refine kA ?_;conv=>whnf)|(refine Br.mk (fun hc=>?_) fun hc=>?_<;>first|exact hc.elim|conv=>whnf)|(refine WB (by omega) ?_;conv=>whnf)|(refine kB ?_))
  have hw:∀{g:GV} (hg:g.ok) {left:Int} (h1:-184467440737095530≤left) (h2:left≤2000),
        Ag (Ac tab) 31 [g.av,.int .i64 left,.int .i64 (((d+1:Nat):Int)-1)] (fun v=>∃r,v=.int .i64 r∧-368934881474191048≤r∧r≤1999∧(0≤r→r+1≤left∧GY d g.av)):=by
   rw[show ((d+1:Nat):Int)-1=(d:Int) by omega]
   exact ih (by omega)
  refine Af (fun m env s=>∃(i:Nat) (cur:Int),m=g.l.length-i∧env=[(1,.int .i64 cur),(2,.int .i64 (d+1:Nat)),(3,.ref 0 0 0 0),(7,.int .i64 i)]∧s=⟨[.arr 0 5 true true [g.av]],1⟩∧
   -368934881474191048≤cur∧cur≤1999∧(0≤cur→cur+i+g.s.length / 50+1≤left∧∀x∈g.l.take i,GY d x)) ?_ _ _ _ ⟨0,_,rfl,rfl,rfl,by omega,by omega,fun h=>⟨by omega,by simp⟩⟩
  rintro _ _ _ ⟨i,cur,rfl,rfl,rfl,b1,b2,hx⟩
  refine⟨rfl,?_⟩
  obtain⟨gx,hgx⟩:=Nz g7 i
  (conv=>whnf);repeat' (first|(refine kA ?_;conv=>whnf)|(refine Br.mk (fun hc=>?_) fun hc=>?_<;>first|exact hc.elim|conv=>whnf)|(apply Au;(· exact(hgx (by omega)).1);conv=>whnf)|(refine kB ?_))
  ·obtain⟨_,ge,gl⟩:=hgx (by omega)
   refine Aa (hw gl (by omega) (by omega)) ?_
   rintro _ ⟨r,rfl,r1,r2,r3⟩
   (conv=>whnf);repeat' (first|(refine kA ?_;conv=>whnf)|(refine Br.mk (fun hc=>?_) fun hc=>?_<;>first|exact hc.elim|conv=>whnf)  |(refine kB ?_))
   exact again.mk ⟨_,by omega,i+1,r,rfl,rfl,rfl,by omega,by omega,fun h=>⟨by have:=hx (by omega);have:=r3 h;omega,Cb (by omega) (hx (by omega)).2 (ge▸(r3 h).2)⟩⟩
  ·exact⟨_,rfl,by omega,by omega,fun h=>absurd h (by omega)⟩
  ·refine⟨_,rfl,by omega,by omega,fun h=>?_⟩
   obtain⟨x1,x2⟩:=hx h
   rw[CQ hc]at x2
   exact⟨by omega,g,rfl,⟨g1,g2,g3,g4,g5,g6,g7⟩,by omega,by omega,x2⟩
def YC (l:List Int):Prop:=l.length=14∧∀x∈l,0≤x∧x≤999
theorem YC.set {l:List Int} (h:YC l) {k:Nat} {y:Int} (hy:0≤y∧y≤999):YC (l.set k y):=by
 refine⟨by rw[List.length_set];exact h.1,fun x hx=>?_⟩
 rcases List.mem_or_eq_of_mem_set hx with hx|rfl
 ·exact h.2 x hx
 ·exact hy
def Carry (j:Nat) (y:Int):Prop:=0≤y∧((j≤6∧y≤999)∨(j=7∧y≤1)∨(j=8∧y=0))
def P9 (n:Int):Int:=if n<0 then -1 else if 0<n then 1 else 0
def val:List Int→Int
 |[]=>0
 |x::l=>x+1000*val l
def TA (g:GV):Prop:=VV 8 g∧(g.k=2∨g.k=3)
noncomputable instance (g:GV):Decidable (TA g):=by unfold TA;infer_instance
def dn (g:GV):Int:=if g.k=2 then 1 else g.d
section
open Go.Sort
def JO:AV→GV
 | .agg [.int _ k,.int _ n,.int _ d,.str s,.sl nn l]=>⟨k,n,d,s,nn,l⟩
 |_=>⟨0,0,0,[],false,[]⟩
def Eu (c:AV→AV→Int):List AV→List AV→Int
 |[],[]=>0
 |[],_::_=>-1
 |_::_,[]=>1
 |a::x,b::y=>Eh (c a b) (Eu c x y)
theorem XH {c:AV→AV→Int} (hc:PC c):∀x y,Eu c y x=-Eu c x y
 |[],[]=>rfl
 |[],_::_=>rfl
 |_::_,[]=>rfl
 |a::x,b::y=>by
  have h1:=hc.anti a b
  have h2:=XH hc x y
  simp only[Eu,Eh]
  split<;>split<;>omega
theorem UR {c:AV→AV→Int} (hc:PC c):∀x y z,Eu c x y≤0→Eu c y z≤0→Eu c x z≤0
 |[],_,[],_,_=>Int.le_refl 0
 |[],_,_::_,_,_=>by show(-1:Int)≤0;omega
 |_::_,[],_,h,_=>absurd h (by show¬(1:Int)≤0;omega)
 |_::_,_::_,[],_,h=>absurd h (by show¬(1:Int)≤0;omega)
 |a::x,b::y,d::z,h1,h2=>by
  have ih:=UR hc x y z
  have a1:=hc.trans a b d
  have a2:=hc.trans b d a
  have a3:=hc.trans d a b
  have b1:=hc.anti a b
  have b2:=hc.anti b d
  have b3:=hc.anti a d
  simp only[Eu,Eh]at*
  split at h1<;>split at h2<;>split<;>omega
theorem PC.lists {c:AV→AV→Int} (hc:PC c):PC (Eu c):=⟨XH hc,UR hc⟩
def pd (g:GV):Int:=if dn g≤0 then 1 else dn g
def VW (a b:GV):Int:=P9 (a.n*pd b-b.n*pd a)
def Tz:Nat→GV→GV→Int
 |0,_,_=>0
 |m+1,a,b=>Eh (Dq (EY a.k) (EY b.k)) (if EY a.k=2 then VW a b else Eh (cS a.s b.s) (Eh (Dq a.n b.n) (Eu (fun x y=>Tz m (JO x) (JO y)) a.l b.l)))
theorem PC.two {α:Type} {d e:α→α→Int} {p:α→Prop} [DecidablePred p] (hd:PC d) (he:PC e):PC fun x y=>if p x then if p y then d x y else -1 else if p y then 1 else e x y where
 anti x y:=by
  have h2:=hd.anti x y
  have h3:=he.anti x y
  by_cases hx:p x<;>by_cases hy:p y<;>simp only[hx,hy,if_true,if_false]<;>first|assumption|rfl
 trans x y z h1 h2:=by
  have d1:=hd.trans x y z
  have e1:=he.trans x y z
  by_cases hx:p x<;>by_cases hy:p y<;>by_cases hz:p z<;>simp only[hx,hy,hz,if_true,if_false]at* <;>first|exact d1 h1 h2|exact e1 h1 h2|omega
noncomputable def EL:Nat→GV→GV→Int
 |0,_,_=>0
 |m+1,a,b=>if VV 8 a then if VV 8 b then Tz (m+1) a b else -1 else if VV 8 b then 1 else
   Eh (Dq a.k b.k) (Eh (Dq a.n b.n) (Eh (Dq a.d b.d) (Eh (cS a.s b.s) (Eu (fun x y=>EL m (JO x) (JO y)) a.l b.l))))
end
end AI
end Go.Proofs.YthnehejdkajjhaaGreatDoor
