/- Small graphs, few strings. Properties looked up. Scripts between graphs: what they are, in plain lists. The order of values: the program's walks. The order of values: the reference's walks. Graphs alike: the program's way and the reference's. Changes in a row; the changes of one node by a script: plain. What a check finds, said in one; a step keeps graphs valid: plain. An edge is added behind all others, and taken away again: plain. The worked examples in the degree laws: reckoned by the kernel. The law DegreeSteps, about the evaluator. -/
import Derived.Test.YthnehejdkajjhaaGreatDoorUMas
import Derived.Test.YthnehejdkajjhaaGreatDoorUMaj
import Derived.Test.YthnehejdkajjhaaGreatDoorUMag
import Derived.Test.YthnehejdkajjhaaGreatDoorUMak
import Derived.Test.YthnehejdkajjhaaGreatDoorUApX
import Derived.Test.YthnehejdkajjhaaGreatDoorUGrCode
set_option linter.unusedVariables false
set_option maxRecDepth 4000
namespace Go.Proofs.YthnehejdkajjhaaGreatDoor
namespace AI
theorem weigh {ps:List GP} {nn:Bool} (hl:Ln ps) (hp:∀p∈ps,p.ok) {left:Int} (h1:-9223372036854775808≤left) (h2:left≤2000):
 Ag (Ac tab) 64 [.sl nn (vs GP.av ps),.int .i64 left] (fun v=>∃r,v=.int .i64 r∧-9223372036854775808≤r∧r≤2000∧(0≤r→r+ps.length≤left∧∀p∈ps,p.key.length≤101000∧GY 12 p.v.av)):=by
 unfold Ln at hl
 refine Ad rfl rfl ?_
 (conv=>whnf);repeat' (first|(refine kA ?_;conv=>whnf)|(refine Br.mk (fun hc=>?_) fun hc=>?_<;>first|exact hc.elim|conv=>whnf)  |(refine kB ?_))
 refine Af (fun m env s=>∃(i:Nat) (cur:Int),m=ps.length-i∧env=[(0,.sl nn (vs GP.av ps)),(1,.int .i64 cur),(5,.int .i64 i)]∧s=⟨[],0⟩∧
  -9223372036854775808≤cur∧cur≤2000∧(0≤cur→cur+i≤left∧∀p∈ps.take i,p.key.length≤101000∧GY 12 p.v.av)) ?_ _ _ _ ⟨0,_,rfl,rfl,rfl,by omega,by omega,fun h=>⟨by omega,by simp⟩⟩
 rintro _ _ _ ⟨i,cur,rfl,rfl,rfl,b1,b2,hx⟩
 refine⟨rfl,?_⟩
 have hat:∀(h:i<ps.length),(ps[i]).ok:=fun h=>hp _ (List.getElem_mem _)
 have hk:∀(h:i<ps.length),(ps[i]).key.length<2^63:=fun h=>(hat h).1
 (conv=>whnf);repeat' (first|(refine kA ?_;conv=>whnf)|(refine Br.mk (fun hc=>?_) fun hc=>?_<;>first|exact hc.elim|conv=>whnf)|(refine WB (hk (by omega)) ?_;conv=>whnf)|(have hwr:=hk (by omega);apply BI;(· exact wrap_i64 (by omega) (by omega));clear hwr;conv=>whnf)|(refine kB ?_))
 ·refine Aa (wei 12 (by omega) (hat (by omega)).2 (by have:=hk (by omega);omega) (by omega)) ?_
  rintro _ ⟨r,rfl,r1,r2,r3⟩
  (conv=>whnf);repeat' (first|(refine kA ?_;conv=>whnf)|(refine Br.mk (fun hc=>?_) fun hc=>?_<;>first|exact hc.elim|conv=>whnf)  |(refine kB ?_))
  exact again.mk ⟨_,by omega,i+1,r,rfl,rfl,rfl,by omega,by omega,fun h=>⟨by have:=hx (by omega);have:=r3 h;omega,Cb (by omega) (hx (by omega)).2 ⟨by have:=r3 h;omega,(r3 h).2⟩⟩⟩
 ·exact⟨_,rfl,by omega,by omega,fun h=>absurd h (by omega)⟩
 ·refine⟨_,rfl,by omega,by omega,fun h=>?_⟩
  obtain⟨x1,x2⟩:=hx h
  rw[CQ hc]at x2
  exact⟨by omega,x2⟩
def SmP (ps:List GP):Prop:=ps.length≤2000∧∀p∈ps,p.key.length≤101000∧GY 12 p.v.av
def SmN (n:GN):Prop:=n.labels.length≤2000∧(∀ s∈n.labels,s.length≤101000)∧SmP n.props
def SmE (e:GE):Prop:=e.ty.length≤101000∧SmP e.props
def SmG (g:GG) (n e:Int):Prop:=g.nodes.length≤n∧g.edges.length≤e∧(∀ n∈g.nodes,SmN n)∧∀e∈g.edges,SmE e
theorem small {g:GG} (hg:g.ok) {n e:Int}:Ag (Ac tab) 30 [g.av,.int .i64 n,.int .i64 e] (fun v=>∃b,v=.bool b∧(b=true→SmG g n e)):=by
 obtain⟨g1,g2,g3,g4,g5,g6,g7,g8⟩:=hg
 unfold Ln at g1 g4
 refine Ad rfl rfl ?_
 (conv=>whnf);repeat' (first|(refine kA ?_;conv=>whnf)|(refine Br.mk (fun hc=>?_) fun hc=>?_<;>first|exact hc.elim|conv=>whnf)  |(refine kB ?_))
 ·exact⟨_,rfl,fun h=>by cases h⟩
 ·exact⟨_,rfl,fun h=>by cases h⟩
 refine Af (fun m env s=>∃(i c:Nat) (left:Int),m=g.nodes.length-i∧env=[(3,.ref 0 0 0 0),(7,.int .i64 left),(8,.int .i64 i)]∧s=⟨[.arr 0 4 true true [g.av]],c⟩∧-9223372036854775808≤left∧left≤2000∧(0≤left→∀n∈g.nodes.take i,SmN n)) ?_ _ _ _ ⟨0,1,2000,rfl,rfl,rfl,by omega,by omega,fun _=>by simp⟩
 rintro _ _ _ ⟨i,c,left,rfl,rfl,rfl,b1,b2,hx⟩
 refine⟨rfl,?_⟩
 have hat:∀h:i<g.nodes.length,(g.nodes[i]).ok:=fun h=>g3 _ (List.getElem_mem _)
 have hk:∀h:i<g.nodes.length,(g.nodes[i]).labels.length<2^63:=fun h=>(hat h).2.1
 (conv=>whnf);repeat' (first|(refine kA ?_;conv=>whnf)|(refine Br.mk (fun hc=>?_) fun hc=>?_<;>first|exact hc.elim|conv=>whnf)|(have hwr:=hk (by omega);apply BI;(· exact wrap_i64 (by omega) (by omega));clear hwr;conv=>whnf)|(refine kB ?_))
 rotate_left
 ·have hN:0≤left→∀n∈g.nodes,SmN n:=fun h=>absurd h (by omega)
  refine Af (fun m env s=>∃(i c:Nat) (left:Int),m=g.edges.length-i∧env=[(3,.ref 0 0 0 0),(7,.int .i64 left),(11,.int .i64 i)]∧s=⟨[.arr 0 4 true true [g.av]],c⟩∧-9223372036854775808≤left∧left≤2000∧(0≤left→(∀ n∈g.nodes,SmN n)∧∀n∈g.edges.take i,SmE n)) ?_ _ _ _ ⟨0,_,left,rfl,rfl,rfl,by omega,by omega,fun h=>⟨hN h,by simp⟩⟩
  clear hN hx hat hk b1 b2 hc
  rintro _ _ _ ⟨i,c,left,rfl,rfl,rfl,b1,b2,hx⟩
  refine⟨rfl,?_⟩
  have hat:∀h:i<g.edges.length,(g.edges[i]).ok:=fun h=>g6 _ (List.getElem_mem _)
  have hk:∀h:i<g.edges.length,(g.edges[i]).ty.length<2^63:=fun h=>(hat h).2.2.2.1
  (conv=>whnf);repeat' (first|(refine kA ?_;conv=>whnf)|(refine Br.mk (fun hc=>?_) fun hc=>?_<;>first|exact hc.elim|conv=>whnf)|(refine WB (hk (by omega)) ?_;conv=>whnf)|(have hwr:=hk (by omega);apply BI;(· exact wrap_i64 (by omega) (by omega));clear hwr;conv=>whnf)|(refine kB ?_))
  ·refine Aa (weigh (hat (by omega)).2.2.2.2.1 (hat (by omega)).2.2.2.2.2.2 (by have:=hk (by omega);omega) (by omega)) ?_
   rintro _ ⟨r,rfl,r1,r2,r3⟩
   (conv=>whnf);repeat' (first|(refine kA ?_;conv=>whnf)|(refine Br.mk (fun hc=>?_) fun hc=>?_<;>first|exact hc.elim|conv=>whnf)  |(refine kB ?_))
   have hk1:=hk (by omega)
   exact again.mk ⟨_,by omega,i+1,_,r,rfl,rfl,rfl,by omega,by omega,fun h=>⟨(hx (by omega)).1,Cb (by omega) (hx (by omega)).2 ⟨by have:=r3 h;omega,by have:=r3 h;omega,(r3 h).2⟩⟩⟩
  all_goals first
   |exact⟨_,rfl,fun h=>absurd h Bool.false_ne_true⟩
   |(refine ⟨_,rfl,fun h=>?_⟩
     rename_i hc1
     obtain⟨x1,x2⟩:=hx hc
     rw[CQ hc1]at x2
     exact⟨by omega,by omega,x1,x2⟩)
 ·have hN:0≤left→∀n∈g.nodes,SmN n:=by rw[CQ hc]at hx;exact hx
  refine Af (fun m env s=>∃(i c:Nat) (left:Int),m=g.edges.length-i∧env=[(3,.ref 0 0 0 0),(7,.int .i64 left),(11,.int .i64 i)]∧s=⟨[.arr 0 4 true true [g.av]],c⟩∧-9223372036854775808≤left∧left≤2000∧(0≤left→(∀ n∈g.nodes,SmN n)∧∀n∈g.edges.take i,SmE n)) ?_ _ _ _ ⟨0,_,left,rfl,rfl,rfl,by omega,by omega,fun h=>⟨hN h,by simp⟩⟩
  clear hN hx hat hk b1 b2 hc
  rintro _ _ _ ⟨i,c,left,rfl,rfl,rfl,b1,b2,hx⟩
  refine⟨rfl,?_⟩
  have hat:∀h:i<g.edges.length,(g.edges[i]).ok:=fun h=>g6 _ (List.getElem_mem _)
  have hk:∀h:i<g.edges.length,(g.edges[i]).ty.length<2^63:=fun h=>(hat h).2.2.2.1
  (conv=>whnf);repeat' (first|(refine kA ?_;conv=>whnf)|(refine Br.mk (fun hc=>?_) fun hc=>?_<;>first|exact hc.elim|conv=>whnf)|(refine WB (hk (by omega)) ?_;conv=>whnf)|(have hwr:=hk (by omega);apply BI;(· exact wrap_i64 (by omega) (by omega));clear hwr;conv=>whnf)|(refine kB ?_))
  ·refine Aa (weigh (hat (by omega)).2.2.2.2.1 (hat (by omega)).2.2.2.2.2.2 (by have:=hk (by omega);omega) (by omega)) ?_
   rintro _ ⟨r,rfl,r1,r2,r3⟩
   (conv=>whnf);repeat' (first|(refine kA ?_;conv=>whnf)|(refine Br.mk (fun hc=>?_) fun hc=>?_<;>first|exact hc.elim|conv=>whnf)  |(refine kB ?_))
   have hk1:=hk (by omega)
   exact again.mk ⟨_,by omega,i+1,_,r,rfl,rfl,rfl,by omega,by omega,fun h=>⟨(hx (by omega)).1,Cb (by omega) (hx (by omega)).2 ⟨by have:=r3 h;omega,by have:=r3 h;omega,(r3 h).2⟩⟩⟩
  all_goals first
   |exact⟨_,rfl,fun h=>absurd h Bool.false_ne_true⟩
   |(refine ⟨_,rfl,fun h=>?_⟩
     rename_i hc1
     obtain⟨x1,x2⟩:=hx hc
     rw[CQ hc1]at x2
     exact⟨by omega,by omega,x1,x2⟩)
 refine Aa (weigh (hat (by omega)).2.2.2.2.1 (hat (by omega)).2.2.2.2.2.2 (by have:=hk (by omega);omega) (by omega)) ?_
 rintro _ ⟨r,rfl,r1,r2,r3⟩
 (conv=>whnf);repeat' (first|(refine kA ?_;conv=>whnf)|(refine Br.mk (fun hc=>?_) fun hc=>?_<;>first|exact hc.elim|conv=>whnf)  |(refine kB ?_))
 refine Af (fun m env s=>∃(j:Nat) (l2:Int),m=(g.nodes[i]).labels.length-j∧env=[(3,.ref 0 0 0 0),(7,.int .i64 l2),(8,.int .i64 i),(9,.ref 1 c 0 0),(10,.int .i64 j)]∧s=⟨[.arr 0 4 true true [g.av],.arr c 3 true true [(g.nodes[i]).av]],c+1⟩∧-9223372036854775808≤l2∧l2≤2000∧(0≤l2→0≤r∧∀s∈(g.nodes[i]).labels.take j,s.length≤101000)) ?_ _ _ _ ⟨0,r,rfl,rfl,rfl,by omega,by omega,fun h=>⟨h,by simp⟩⟩
 rintro _ _ _ ⟨j,l2,rfl,rfl,rfl,d1,d2,hy⟩
 refine⟨rfl,?_⟩
 have hlb:∀h:j<(g.nodes[i]).labels.length,((g.nodes[i]).labels[j]).length<2^63:=fun h=>(hat (by omega)).2.2.2.1 _ (List.getElem_mem _)
 have hk1:=hk (by omega)
 (conv=>whnf);repeat' (first|(refine kA ?_;conv=>whnf)|(refine Br.mk (fun hc=>?_) fun hc=>?_<;>first|exact hc.elim|conv=>whnf)|(refine WB (hlb (by omega)) ?_;conv=>whnf)|(have hwr:=hlb (by omega);apply BI;(· exact wrap_i64 (by omega) (by omega));clear hwr;conv=>whnf)|(refine kB ?_))
 ·have:=hlb (by omega)
  exact again.mk ⟨_,by omega,j+1,_,rfl,rfl,rfl,by omega,by omega,fun h=>⟨(hy (by omega)).1,Cb (by omega) (hy (by omega)).2 (by omega)⟩⟩
 ·exact again.mk ⟨_,by omega,i+1,_,l2,rfl,rfl,rfl,by omega,by omega,fun h=>absurd h (by omega)⟩
 ·refine again.mk ⟨_,by omega,i+1,_,l2,rfl,rfl,rfl,by omega,by omega,fun h=>?_⟩
  obtain⟨y1,y2⟩:=hy h
  rw[CQ hc]at y2
  have:=r3 y1
  exact Cb (by omega) (hx (by omega)) ⟨by omega,y2,by omega,this.2⟩
def cl (b:Bool) (x:AV):AV:=bif b then .agg [x]else x
section
open Go.Sort
theorem okN {v:GV} (hv:v.ok):v.l.length<2^63:=hv.2.2.2.2.1
end
section
open Go.Sort
end
def QI {α:Type} (R:α→α→Prop) (l m:List α):Prop:=l.length=m.length∧∀k (h:k<l.length) (h':k<m.length),R l[k] m[k]
noncomputable instance {α:Type} (R:α→α→Prop) (l m:List α):Decidable (QI R l m):=Classical.propDecidable _
section
variable {α:Type} {R:α→α→Prop} {l m:List α} {i:Nat}
end
def SP (x y:GP):Prop:=x.key=y.key∧EL 12 x.v y.v=0
def SN (x y:GN):Prop:=x.id=y.id∧x.labels=y.labels∧QI SP x.props y.props
def SE (x y:GE):Prop:=x.id=y.id∧x.fr=y.fr∧x.to=y.to∧x.ty=y.ty∧QI SP x.props y.props
def SG (a b:GG):Prop:=QI SN a.nodes b.nodes∧QI SE a.edges b.edges
noncomputable instance (x y:GP):Decidable (SP x y):=Classical.propDecidable _
noncomputable instance (x y:GN):Decidable (SN x y):=Classical.propDecidable _
noncomputable instance (x y:GE):Decidable (SE x y):=Classical.propDecidable _
noncomputable instance (x y:GG):Decidable (SG x y):=Classical.propDecidable _
structure VN (n:GN):Prop where
 id:Jw n.id
 nl:allNames n.labels
 nk:allNames (keysOf n.props)
 pl:allPlain n.props
 a:YE n
structure VE (n:GE):Prop where
 id:Jw n.id
 ty:isName n.ty
 nk:allNames (keysOf n.props)
 pl:allPlain n.props
 a:YF n
structure VG (g:GG):Prop where
 ask:Ef g
 n:∀n∈g.nodes,VN n
 e:∀n∈g.edges,VE n
 ends:∀e∈g.edges,(∃ n∈g.nodes,n.id=e.fr)∧∃n∈g.nodes,n.id=e.to
theorem Aqj {g:GG} (h:AZ g=0):VG g:=by
 have ha:=Td h
 obtain⟨hf,hn,hN,hE⟩:=LU h
 refine⟨ha,fun n hm=>?_,fun n hm=>?_,fun n hm=>?_⟩
 ·have hA:=ha.aN n hm
  obtain⟨i,hi,rfl⟩:=List.getElem_of_mem hm
  have h2:=KP hi (hN i hi)
  obtain⟨a1,a2,a3,a4,a5,a6,a7⟩:=Sv h2.2.2.2
  exact⟨⟨h2.2.1,by have:=hn.2.1;have:=h2.2.2.1;omega⟩,a5,a6,a7,hA⟩
 ·have hA:=ha.aE n hm
  obtain⟨i,hi,rfl⟩:=List.getElem_of_mem hm
  have h2:=MZ hi (hE i hi)
  obtain⟨a1,a2,a3,a4,a5,a6,a7⟩:=Sv h2.2.2.2.2.2.2
  exact⟨⟨h2.2.1,by have:=hn.2.2.2;have:=h2.2.2.1;omega⟩,h2.2.2.2.2.2.1,a6,a7,hA⟩
 ·obtain⟨i,hi,rfl⟩:=List.getElem_of_mem hm
  have h2:=MZ hi (hE i hi)
  exact⟨List.mem_map.1 h2.2.2.2.1,List.mem_map.1 h2.2.2.2.2.1⟩
section
variable {g:GG} {c:GC}
end
structure AtN (h:GG) (z:Int) (m:GN) (f:Int→Option GN) (E:List GE):Prop where
 ask:Ef h
 here:lk GN.id h.nodes z=some m
 rest:∀y,y≠z→lk GN.id h.nodes y=f y
 ed:h.edges=E
theorem AtN.put {h:GG} {z:Int} {m m':GN} {f:Int→Option GN} {E:List GE} (a:AtN h z m f E) (hid:m'.id=z) (hn:YE m'):AtN {h with nodes:=A8 BX GN.id m' h.nodes} z m' f E where
 ask:=a.ask.Lu hn ⟨m,(EF a.here).1,by rw[hid];exact(EF a.here).2⟩
 here:=by show lk GN.id (A8 BX GN.id m' h.nodes) z=_;rw[OU Ak a.ask.iN,if_pos hid.symm]
 rest:=fun y hy=>by show lk GN.id (A8 BX GN.id m' h.nodes) y=_;rw[OU Ak a.ask.iN,if_neg (by rw[hid];exact hy)];exact a.rest y hy
 ed:=a.ed
theorem AtN.id {h:GG} {z:Int} {m:GN} {f:Int→Option GN} {E:List GE} (a:AtN h z m f E):m.id=z:=(EF a.here).2
theorem AtN.na {h:GG} {z:Int} {m:GN} {f:Int→Option GN} {E:List GE} (a:AtN h z m f E):YE m:=a.ask.aN m (EF a.here).1
section
variable {z:Int} {f:Int→Option GN} {E:List GE}
end
theorem Aay {l:List (List UInt8)} (h:Inc Op.bytesLess id l):rises l:=fun j hj=>by
 have:=h.get (show j<j+1 by omega) hj
 simp only[id]at this
 rw[Bool.or_eq_false_iff]
 constructor
 ·cases hb:Op.bytesLess l[j+1] l[j]with
  |false=>rfl
  |true=>have:=Ai.tr _ _ _ this hb;rw[Ai.Oc]at this;cases this
 ·rw[beq_eq_false_iff_ne]
  intro e
  rw[e,Ai.Oc]at this;cases this
theorem Acj {P:List GP} (h:Inc Op.bytesLess GP.key P):rises (keysOf P):=Aay (by have:=EI h;unfold Inc;exact this)
theorem Aaz {L:List (List UInt8)} {P:List GP} (h1:L.length≤8) (h2:P.length≤16) (h3:allNames L) (h4:allNames (keysOf P)) (h5:Inc Op.bytesLess id L) (h6:Inc Op.bytesLess GP.key P) (h7:allPlain P):DV L P=0:=by
 unfold DV
 rw[if_neg (by omega),if_neg (fun h=>h ⟨h3,h4⟩),if_neg (fun h=>h ⟨Aay h5,Acj h6⟩),if_neg (fun h=>h h7)]
structure Chk (g:GG):Prop where
 vg:VG g
 nx:Hy g
 n:∀n∈g.nodes,n.id<g.BF
 e:∀n∈g.edges,n.id<g.BA
theorem Zk {g:GG} (h:AZ g=0):Chk g:=by
 have hv:=Aqj h
 obtain⟨hf,hn,hN,hE⟩:=LU h
 refine⟨hv,hn,fun n hm=>?_,fun n hm=>?_⟩
 ·obtain⟨i,hi,rfl⟩:=List.getElem_of_mem hm
  exact(KP hi (hN i hi)).2.2.1
 ·obtain⟨i,hi,rfl⟩:=List.getElem_of_mem hm
  exact(MZ hi (hE i hi)).2.2.1
theorem Tc {g:GG} (h:Chk g):AZ g=0:=by
 have a:=h.vg.ask
 have hn:∀k,k<g.nodes.length→ER g.nodes g.BF k=0:=fun k hk=>by
  have hm:=List.getElem_mem hk
  have v:=h.vg.n _ hm
  rw[AaB hk (fun h0 h1=>by have:=a.iN.get (show k-1<k by omega) hk;simp only[BX,decide_eq_true_eq]at this;omega) (by have:=v.id.1;have:=h.n _ hm;omega)]
  exact Aaz v.a.lL v.a.lP v.nl v.nk v.a.iL v.a.iP v.pl
 have he:∀k,k<g.edges.length→EX g.nodes g.edges g.BA k=0:=fun k hk=>by
  have hm:=List.getElem_mem hk
  have v:=h.vg.e _ hm
  obtain⟨⟨p,hp,e1⟩,⟨q,hq,e2⟩⟩:=h.vg.ends _ hm
  rw[AaC hk (fun h0 h1=>by have:=a.iE.get (show k-1<k by omega) hk;simp only[BX,decide_eq_true_eq]at this;omega) (by have:=v.id.1;have:=h.e _ hm;omega) ⟨List.mem_map.2 ⟨p,hp,e1⟩,List.mem_map.2 ⟨q,hq,e2⟩⟩ v.ty]
  exact Aaz (by simp) v.a.lP (fun s hs=>by cases hs) v.nk List.Pairwise.nil v.a.iP v.pl
 have:=Ack ⟨a.lN,a.lE⟩ h.nx hn he
 simp only[AV.int.injEq,true_and]at this
 exact this.symm
theorem Chk.Lu {g:GG} (h:Chk g) {m:GN} (hm:VN m) (hx:∃n∈g.nodes,n.id=m.id):Chk {g with nodes:=A8 BX GN.id m g.nodes}:=by
 obtain⟨n0,hn0,e0⟩:=hx
 refine⟨⟨h.vg.ask.Lu hm.a ⟨n0,hn0,e0⟩,fun n hn=>?_,h.vg.e,fun e he=>?_⟩,h.nx,fun n hn=>?_,h.e⟩
 ·rcases Bq Ak hn with rfl|hn
  ·exact hm
  ·exact h.vg.n n hn
 ·have hk:∀z,(∃ n∈g.nodes,n.id=z)→∃n∈A8 BX GN.id m g.nodes,n.id=z:=fun z ⟨n,hn,e⟩=>by
   by_cases q:z=m.id
   ·exact⟨m,(KT Ak).2 (.inl rfl),q.symm⟩
   ·exact⟨n,(KT Ak).2 (.inr ⟨hn,by rw[show GN.id n=z from e];exact q⟩),e⟩
  exact⟨hk _ (h.vg.ends e he).1,hk _ (h.vg.ends e he).2⟩
 ·rcases Bq Ak hn with rfl|hn
  ·have:=h.n n0 hn0;rw[e0]at this;exact this
  ·exact h.n n hn
theorem Chk.Tn {g:GG} (h:Chk g) {m n0:GE} (hm:VE m) (hn0:n0∈g.edges) (e0:n0.id=m.id) (e1:n0.fr=m.fr) (e2:n0.to=m.to):Chk {g with edges:=A8 BX GE.id m g.edges}:=by
 refine⟨⟨h.vg.ask.Tn hm.a ⟨n0,hn0,e0⟩,h.vg.n,fun n hn=>?_,fun e he=>?_⟩,h.nx,h.n,fun n hn=>?_⟩
 ·rcases Bq Ak hn with rfl|hn
  ·exact hm
  ·exact h.vg.e n hn
 ·rcases Bq Ak he with rfl|he
  ·rw[← e1,←e2];exact h.vg.ends n0 hn0
  ·exact h.vg.ends e he
 ·rcases Bq Ak hn with rfl|hn
  ·have:=h.e n0 hn0;rw[e0]at this;exact this
  ·exact h.e n hn
theorem Ae3 {x:List UInt8} {l:List (List UInt8)} (hx:isName x) (hl:allNames l):allNames (A8 Op.bytesLess id x l):=fun s hs=>by
 rcases Bq Ai hs with rfl|hs
 ·exact hx
 ·exact hl s hs
theorem AaD {x:GP} {l:List GP} (hx:isName x.key) (hl:allNames (keysOf l)):allNames (keysOf (A8 Op.bytesLess GP.key x l)):=fun s hs=>by
 obtain⟨p,hp,rfl⟩:=List.mem_map.1 hs
 rcases Bq Ai hp with rfl|hp
 ·exact hx
 ·exact hl _ (List.mem_map_of_mem hp)
theorem AaE {x:List UInt8} {l:List GP} (hl:allNames (keysOf l)):allNames (keysOf (Cc Op.bytesLess GP.key x l)):=fun s hs=>by
 obtain⟨p,hp,rfl⟩:=List.mem_map.1 hs
 exact hl _ (List.mem_map_of_mem (Ce hp))
theorem Yb {x:GP} {l:List GP} (hx:DW x.v) (hl:allPlain l):allPlain (A8 Op.bytesLess GP.key x l):=fun p hp=>by
 rcases Bq Ai hp with rfl|hp
 ·exact hx
 ·exact hl p hp
theorem AaF {a b:Int} (ha:Jw a) (hb:1≤b∧b≤1000001):1≤(if a+1>b then a+1 else b)∧(if a+1>b then a+1 else b)≤1000001:=by unfold Jw at ha;split<;>omega
theorem Amh {a b c:Int} (h:a<b):a<(if c>b then c else b):=by split<;>omega
theorem Agt {a b c:Int} (h:a<c):a<(if c>b then c else b):=by split<;>omega
theorem VK {g:GG} {c:GC} (h:Chk g):Chk (stepG g c).2:=by
 have ha:=h.vg.ask
 have hstep:=ha.step (c:=c)
 unfold stepG at hstep ⊢
 split
 ·exact h
 rename_i hk
 rw[if_neg hk]at hstep
 obtain⟨hop,hid,hnm,h6,hvl⟩:=Ae1 (Classical.not_not.1 hk)
 split
 ·rename_i h5
  rw[if_pos h5]at hstep
  unfold Ba at hstep ⊢
  split
  ·rename_i h1
   rw[if_pos h1]at hstep
   split
   ·exact h
   rename_i hx
   rw[if_neg hx]at hstep
   split
   ·rename_i hl
    rw[if_pos hl]at hstep
    have hb:VN ⟨c.id,false,[],false,[]⟩:=⟨hid,fun s hs=>(by cases hs),fun s hs=>(by cases hs),fun s hs=>(by cases hs),⟨List.Pairwise.nil,by simp,List.Pairwise.nil,by simp⟩⟩
    refine⟨⟨hstep,fun n hn=>?_,h.vg.e,fun e he=>?_⟩,?_,fun n hn=>?_,h.e⟩
    ·rcases Bq Ak hn with rfl|hn
     ·exact hb
     ·exact h.vg.n n hn
    ·have hkp:∀z,(∃ n∈g.nodes,n.id=z)→∃n∈A8 BX GN.id ⟨c.id,false,[],false,[]⟩ g.nodes,n.id=z:=fun z ⟨n,hn,e⟩=>⟨n,(KT Ak).2 (.inr ⟨hn,fun q=>hx ⟨n,hn,q⟩⟩),e⟩
     exact⟨hkp _ (h.vg.ends e he).1,hkp _ (h.vg.ends e he).2⟩
    ·have:=AaF hid ⟨h.nx.1,h.nx.2.1⟩
     exact⟨this.1,this.2,h.nx.2.2⟩
    ·rcases Bq Ak hn with rfl|hn
     ·exact Agt (by show c.id<c.id+1;omega)
     ·exact Amh (h.n n hn)
   ·exact h
  rename_i hop1
  split
  ·exact h
  rename_i n hf
  obtain⟨hn,hz⟩:=Et hf
  have hz:=of_decide_eq_true hz
  have hv:=h.vg.n n hn
  rw[if_neg hop1,hf]at hstep
  split
  ·split
   ·exact h
   rename_i hu
   refine⟨⟨?_,fun n hn=>h.vg.n n (Ce hn),h.vg.e,fun e he=>?_⟩,h.nx,fun n hn=>h.n n (Ce hn),h.e⟩
   ·exact{ha with lN:=Nat.le_trans (Dz Ak) ha.lN,iN:=EJ Ak ha.iN,aN:=fun m hm=>ha.aN m (Ce hm)}
   ·have hkp:∀z,z≠c.id→(∃ n∈g.nodes,n.id=z)→∃n∈Cc BX GN.id c.id g.nodes,n.id=z:=fun z q ⟨n,hn,e⟩=>⟨n,(Na Ak).2 ⟨hn,by rw[show GN.id n=z from e];exact q⟩,e⟩
    exact⟨hkp _ (fun q=>hu ⟨e,he,.inl q⟩) (h.vg.ends e he).1,hkp _ (fun q=>hu ⟨e,he,.inr q⟩) (h.vg.ends e he).2⟩
  split
  ·rename_i h3
   split
   ·exact h
   split
   ·exact h.Lu ⟨hv.id,Ae3 (hnm (.inl h3)) hv.nl,hv.nk,hv.pl,⟨EK Ai hv.a.iL,Nat.le_trans (EC Ai) (by omega),hv.a.iP,hv.a.lP⟩⟩ ⟨n,hn,rfl⟩
   ·exact h
  split
  ·split
   ·exact h.Lu ⟨hv.id,fun s hs=>hv.nl s (Ce hs),hv.nk,hv.pl,⟨EJ Ai hv.a.iL,Nat.le_trans (Dz Ai) hv.a.lL,hv.a.iP,hv.a.lP⟩⟩ ⟨n,hn,rfl⟩
   ·exact h
  split
  ·exact h.Lu ⟨hv.id,hv.nl,AaE hv.nk,fun p hp=>hv.pl p (Ce hp),⟨hv.a.iL,hv.a.lL,EJ Ai hv.a.iP,Nat.le_trans (Dz Ai) hv.a.lP⟩⟩ ⟨n,hn,rfl⟩
  split
  ·rename_i h2 h3 h4 hnn hx
   have h5:c.op=5:=by omega
   refine h.Lu ⟨hv.id,hv.nl,AaD (hnm (by unfold Oi;omega)) hv.nk,Yb ((hvl (.inl h5)).resolve_left hnn) hv.pl,⟨hv.a.iL,hv.a.lL,EK Ai hv.a.iP,?_⟩⟩ ⟨n,hn,rfl⟩
   rcases hx with hx|hx
   ·exact Nat.le_trans (Io Ai hx) hv.a.lP
   ·exact Nat.le_trans (EC Ai) (by omega)
  ·exact h
 ·rename_i h5
  rw[if_neg h5]at hstep
  unfold BD at hstep ⊢
  split
  ·rename_i h6'
   rw[if_pos h6']at hstep
   split
   ·exact h
   rename_i hx
   rw[if_neg hx]at hstep
   split
   ·rename_i Ami
    rw[if_pos Ami]at hstep
    split
    ·rename_i hl
     rw[if_pos hl]at hstep
     have hb:VE ⟨c.id,c.fr,c.to,c.name,false,[]⟩:=⟨hid,hnm (by unfold Oi;omega),fun s hs=>(by cases hs),fun s hs=>(by cases hs),⟨List.Pairwise.nil,by simp⟩⟩
     refine⟨⟨hstep,h.vg.n,fun n hn=>?_,fun e he=>?_⟩,?_,h.n,fun n hn=>?_⟩
     ·rcases Bq Ak hn with rfl|hn
      ·exact hb
      ·exact h.vg.e n hn
     ·rcases Bq Ak he with rfl|he
      ·exact Ami
      ·exact h.vg.ends e he
     ·have:=AaF hid h.nx.2.2
      exact⟨h.nx.1,h.nx.2.1,this.1,this.2⟩
     ·rcases Bq Ak hn with rfl|hn
      ·exact Agt (by show c.id<c.id+1;omega)
      ·exact Amh (h.e n hn)
    ·exact h
   ·exact h
  rename_i hop1
  split
  ·exact h
  rename_i n hf
  obtain⟨hn,hz⟩:=Et hf
  have hv:=h.vg.e n hn
  split
  ·exact⟨⟨{ha with lE:=Nat.le_trans (Dz Ak) ha.lE,iE:=EJ Ak ha.iE,aE:=fun m hm=>ha.aE m (Ce hm)},h.vg.n,fun m hm=>h.vg.e m (Ce hm),fun e he=>h.vg.ends e (Ce he)⟩,h.nx,h.n,fun m hm=>h.e m (Ce hm)⟩
  split
  ·exact h.Tn ⟨hv.id,hv.ty,AaE hv.nk,fun p hp=>hv.pl p (Ce hp),⟨EJ Ai hv.a.iP,Nat.le_trans (Dz Ai) hv.a.lP⟩⟩ hn rfl rfl rfl
  split
  ·rename_i h7 hnn hx
   have h8:c.op=8:=by omega
   refine h.Tn ⟨hv.id,hv.ty,AaD (hnm (by unfold Oi;omega)) hv.nk,Yb ((hvl (.inr h8)).resolve_left hnn) hv.pl,⟨EK Ai hv.a.iP,?_⟩⟩ hn rfl rfl rfl
   rcases hx with hx|hx
   ·exact Nat.le_trans (Io Ai hx) hv.a.lP
   ·exact Nat.le_trans (EC Ai) (by omega)
  ·exact h
theorem Aci {g:GG} {c:GC} (hck:AZ g=0) (h0:(BU g c).2=0):(stepG g c).1=0∧BU g c=((stepG g c).2,0):=by
 unfold BU at h0 ⊢
 rw[if_neg (fun k=>k hck)]at h0 ⊢
 by_cases h1:(stepG g c).1=0
 ·rw[if_neg (fun k=>k h1)];exact⟨h1,rfl⟩
 ·rw[if_pos h1]at h0;exact absurd h0 h1
theorem Um {g:GG} {c:GC} (hck:AZ g=0) (h0:(BU g c).2=0):AZ (BU g c).1=0:=by
 rw[(Aci hck h0).2]
 exact Tc (VK (Zk hck))
theorem Ae0 {g:GG} {c:GC} (hck:AZ g=0) (h6:c.op=6) (hid:c.id=g.BA) (h0:(BU g c).2=0):
 (BU g c).1.nodes=g.nodes∧(BU g c).1.edges=g.edges++[⟨c.id,c.fr,c.to,c.name,false,[]⟩]∧Jw c.id:=by
 obtain⟨h1,h2⟩:=Aci hck h0
 rw[h2]
 have hx:=(AdE hck).e
 have hall:∀y∈g.edges,BX y.id c.id=true:=fun y hy=>by have:=hx y hy;simp only[BX,decide_eq_true_eq];omega
 have hno:¬∃n∈g.edges,n.id=c.id:=fun⟨y,hy,e⟩=>by have:=hx y hy;omega
 unfold stepG at h1 ⊢
 by_cases hk:Il c=0
 ·rw[if_neg (fun k=>k hk),if_neg (by omega)]at h1 ⊢
  unfold BD at h1 ⊢
  rw[if_pos h6,if_neg hno]at h1 ⊢
  by_cases hn:(∃ n∈g.nodes,n.id=c.fr)∧(∃ n∈g.nodes,n.id=c.to)
  ·rw[if_pos hn]at h1 ⊢
   by_cases hl:g.edges.length<4000
   ·rw[if_pos hl]
    exact⟨rfl,LW (key:=GE.id) (x:=⟨c.id,c.fr,c.to,c.name,false,[]⟩) Ak hall,(Ae1 hk).2.1⟩
   ·rw[if_neg hl]at h1;cases h1
  ·rw[if_neg hn]at h1;cases h1
 ·rw[if_pos hk]at h1;exact absurd h1 hk
theorem Ae2 {h:GG} {c:GC} {E:List GE} {e:GE} (hck:AZ h=0) (he:h.edges=E++[e]) (hE:∀x∈E,x.id<e.id) (h7:c.op=7) (hid:c.id=e.id) (hi:Jw c.id) (hn:c.name=[]) (hf:c.fr=0) (ht:c.to=0) (hv:isNull c.v):
 (BU h c).2=0∧(BU h c).1.nodes=h.nodes∧(BU h c).1.edges=E:=by
 have hk:Il c=0:=by
  unfold Il
  rw[if_neg,if_neg,if_neg]
  ·rintro⟨hv',_⟩;unfold Un at hv';omega
  ·rintro⟨hv',_⟩;unfold Oi at hv';omega
  ·rintro(h1|h1|h1|h1|h1|h1)
   ·omega
   ·exact h1 hi
   ·exact h1.2 hn
   ·exact h1.2 hv
   ·omega
   ·omega
 have hfd:h.edges.find? (fun n=>decide (n.id=c.id))=some e:=by
  rw[he,List.find?_append,List.find?_eq_none.2 (fun x hx=>by have:=hE x hx;simp;omega)]
  simp[hid]
 have hs:stepG h c=(0,{h with edges:=Cc BX GE.id c.id h.edges}):=by
  unfold stepG
  rw[if_neg (fun k=>k hk),if_neg (by omega)]
  unfold BD
  rw[if_neg (by omega),hfd]
  simp only[]
  rw[if_pos h7]
 have ha:BU h c=((stepG h c).2,0):=by
  unfold BU
  rw[if_neg (fun k=>k hck),if_neg (fun k=>k (by rw[hs]))]
 rw[ha,hs]
 refine⟨rfl,rfl,?_⟩
 show Cc BX GE.id c.id h.edges=E
 rw[he]
 exact Ya Ak (fun y hy=>by have:=hE y hy;simp only[BX,decide_eq_true_eq];omega) hid.symm
set_option maxRecDepth 100000 in
theorem QK:Fb (run (Ac tab) 60) 23 []=some (.bool true):=by kernel_rfl
theorem Ub:Ag (Ac tab) 23 [] (· =.bool (decide True)):=⟨.bool true,⟨60,QK⟩,rfl⟩
theorem Avf {g:GG} (hg:g.ok):Ag (Ac tab) 21 [g.av] (fun v=>∃b,v=.bool b∧(b=true→g.nodes.length≤60∧g.edges.length≤100)):=by
 have h1:=hg.1
 have h2:=hg.2.2.2.1
 unfold Ln at h1 h2
 refine Ad rfl rfl ?_
 (conv=>whnf);repeat' (first  |(refine kA ?_;conv=>whnf)|(refine Br.mk (fun hc=>?_) fun hc=>?_<;>first|exact hc.elim|conv=>whnf)|(refine kB ?_))
 all_goals first
  |exact⟨_,rfl,fun _=>⟨by omega,by omega⟩⟩
  |exact⟨_,rfl,fun h=>Bool.noConfusion h⟩
  |exact⟨_,rfl,fun h=>⟨by omega,by have:=of_decide_eq_true h;omega⟩⟩
def MN:List UInt8:=[84]
theorem AhZ {g:GG} {a:ST} (h:NP g a) (k:List UInt8):OO a.types k=Em g.edges k:=by
 obtain⟨R,T,a1,a2,a3,a4,a5,a6,i1,m1,i2,m2⟩:=h
 rw[a4]
 exact YH fun hk=>AfD fun hm=>hk ((m2 k).2 hm)
theorem Aeh {g:GG} {a:ST} (h:NP g a):∃T:List (List UInt8),T.Nodup∧(∀ x,x∈T↔x∈typesOf g.edges)∧a.outs.length=a.types.length∧(a.outs.map fun p=>p.2.headD 0)=T.map (Uc g 1)∧a.types.length≤g.edges.length∧∀p∈a.outs,0≤p.2.headD 0∧p.2.headD 0≤g.edges.length:=by
 obtain⟨R,T,a1,a2,a3,a4,a5,a6,i1,m1,i2,m2⟩:=h
 have lT:=IV (IU i2) fun x hx=>(m2 x).1 hx
 simp only[typesOf,List.length_map]at lT
 have l5:=congrArg List.length a5
 rw[List.length_map,List.length_map]at l5
 have l4:a.types.length=T.length:=by rw[a4];simp only[cnts,List.length_map]
 have hh:(a.outs.map fun p=>p.2.headD 0)=T.map (Uc g 1):=by
  have:=congrArg (List.map fun l:List Int=>l.headD 0) a5
  rw[List.map_map,List.map_map]at this
  exact this
 refine⟨T,IU i2,m2,by omega,hh,by omega,fun p hp=>?_⟩
 have:p.2.headD 0∈T.map (Uc g 1):=by rw[← hh];exact List.mem_map_of_mem (f:=fun p:Bool×List Int=>p.2.headD 0) hp
 obtain⟨x,_,e⟩:=List.mem_map.1 this
 rw[← e]
 exact ZU
theorem Ah0 {s t u:ST} {g h:GG} {c:GC} (fs:s.fine) (hg:g.ok) (hN:g.nodes.length≤100) (hE:g.edges.length≤200) (hck:AZ g=0) (hs:NP g s) (hc:c.ok) (h0:BU g c=(h,0)) (hho:h.ok) (hh:AZ h=0):
 ∃u:ST,u.fine∧NP h u∧Ag (Ac tab) 26 [s.av,g.av,c.av] (· =.BG [u.av,.int .i64 0]):=by
 obtain⟨t,ft,t1,_,pt⟩:=ZW hg (by omega) (by omega)
 have pA:=AoJ hg hc
 have hl:=AfE (g:=g) (c:=c)
 rw[h0]at pA hl
 dsimp only at hl
 obtain⟨u,fu,u1,_,pu⟩:=ZW hho (by omega) (by omega)
 have q1:=Avg (s:=s) pt pA pu (Aqz fs ft)
 rw[if_pos ⟨hck,hs.eqv (t1 hck)⟩,if_pos rfl,hh]at q1
 exact⟨u,fu,u1 hh,q1⟩
set_option maxRecDepth 10000 in
set_option maxHeartbeats 4000000 in
theorem Afg:∀xs,likes Tryz.prog [25,5,5] xs→Am (Ac tab) 6 xs ⟨[],0⟩ fun out _=>out=.ok (.bool true):=by
 intro xs h
 match xs,h with
 |[x,y,z],h=>
  obtain⟨h1,⟨d2,h2⟩,⟨d3,h3⟩,_⟩:=h
  obtain⟨g,rfl,hg⟩:=NC h1
  obtain⟨fr,rfl,hfr⟩:=Abm Tryz.underlying5 h2
  obtain⟨to,rfl,hto⟩:=Abm Tryz.underlying5 h3
  have Avh:0≤fr∧fr<256:=by
   simp[Lit.wf]at hfr
   have h1:IntKind.u8.min=0:=by rfl
   have h2:IntKind.u8.max=255:=by rfl
   omega
  have Avi:0≤to∧to<256:=by
   simp[Lit.wf]at hto
   have h1:IntKind.u8.min=0:=by rfl
   have h2:IntKind.u8.max=255:=by rfl
   omega
  clear hfr hto
  obtain⟨_,⟨b1,rfl,q1⟩,p1⟩:=(Avf hg).IJ
  have p2:=VO hg
  refine Ah rfl rfl ?_
  cases b1
  case false=>
   (conv=>whnf);repeat' (first|(refine Aa p1 ?_;rintro _ rfl;conv=>whnf)|(refine Bo Ub (fun _=>?_) (fun h=>absurd trivial h);conv=>whnf)|(refine kA ?_;conv=>whnf)|(refine Br.mk (fun hc=>?_) fun hc=>?_<;>first|exact hc.elim|conv=>whnf)|(refine kB ?_))
   all_goals first|rfl
  obtain⟨hN,hE⟩:=q1 rfl
  by_cases hck:AZ g=0
  case neg=>
   generalize AZ g=e at p2 hck
   (conv=>whnf);repeat' (first|((first|refine Aa p1 ?_|refine Aa p2 ?_);rintro _ rfl;conv=>whnf)|(refine Bo Ub (fun _=>?_) (fun h=>absurd trivial h);conv=>whnf)|(refine kA ?_;conv=>whnf)|(refine Br.mk (fun hc=>?_) fun hc=>?_<;>first|exact hc.elim|conv=>whnf)|(refine kB ?_))
   all_goals first|rfl|(exfalso;omega)
  rw[hck]at p2
  by_cases hn0:g.nodes.length=0
  ·(conv=>whnf);repeat' (first|((first|refine Aa p1 ?_|refine Aa p2 ?_);rintro _ rfl;conv=>whnf)|(refine Bo Ub (fun _=>?_) (fun h=>absurd trivial h);conv=>whnf)|(refine kA ?_;conv=>whnf)|(refine Br.mk (fun hc=>?_) fun hc=>?_<;>first|exact hc.elim|conv=>whnf)|(refine kB ?_))
   all_goals first|rfl|(exfalso;omega)
  have hnx:=hg.2.2.2.2.2.2.2
  by_cases hmx:1000000<g.BA
  ·(conv=>whnf);repeat' (first|((first|refine Aa p1 ?_|refine Aa p2 ?_);rintro _ rfl;conv=>whnf)|(refine Bo Ub (fun _=>?_) (fun h=>absurd trivial h);conv=>whnf)|(refine kA ?_;conv=>whnf)|(refine Br.mk (fun hc=>?_) fun hc=>?_<;>first|exact hc.elim|conv=>whnf)|(refine kB ?_))
   all_goals first|rfl|(exfalso;omega)
  have m1:=Int.tmod_nonneg (g.nodes.length:Int) Avh.1
  have m2:=Int.tmod_lt_of_pos fr (show (0:Int)<g.nodes.length by omega)
  have m3:=Int.tmod_nonneg (g.nodes.length:Int) Avi.1
  have m4:=Int.tmod_lt_of_pos to (show (0:Int)<g.nodes.length by omega)
  have hi:(Int.tmod fr g.nodes.length).toNat<g.nodes.length:=by omega
  have hj:(Int.tmod to g.nodes.length).toNat<g.nodes.length:=by omega
  have okN:∀i (h:i<g.nodes.length),I64 (g.nodes[i]).id:=fun i h=>(hg.2.2.1 _ (List.getElem_mem h)).1
  obtain⟨c,hcd⟩:∃c:GC,c=⟨6,g.BA,(g.nodes[(Int.tmod fr g.nodes.length).toNat]).id,(g.nodes[(Int.tmod to g.nodes.length).toNat]).id,MN,⟨0,0,0,[],false,[]⟩⟩:=⟨_,rfl⟩
  have ArL:c.av=.agg [.int .i64 6,.int .i64 g.BA,.int .i64 (g.nodes[(Int.tmod fr g.nodes.length).toNat]).id,.int .i64 (g.nodes[(Int.tmod to g.nodes.length).toNat]).id,.str MN,.int .i64 0,.int .i64 0,.int .i64 0,.str [],.sl false []]:=by rw[hcd];rfl
  have zok:(⟨0,0,0,[],false,[]⟩:GV).ok:=⟨by unfold I64;decide,by unfold I64;decide,by unfold I64;decide,by unfold Ln;decide,by unfold Ln;decide,fun _=>rfl,fun x hx=>by cases hx⟩
  have hc:c.ok:=by rw[hcd];exact⟨by unfold I64;dsimp only;omega,hnx,okN _ hi,okN _ hj,(by show(1:Nat)<2^63;decide),zok⟩
  obtain⟨_,⟨h',rfl,hn',ho'⟩,pA⟩:=(AoK hg hc (by omega) (by omega)).IJ
  obtain⟨s,fs,s1,_,pS⟩:=ZW hg (by omega) (by omega)
  have hS:=s1 hck
  rw[hck]at pS
  rw[ArL]at pA
  by_cases h0:(BU g c).2=0
  case neg=>
   generalize (BU g c).2=e at pA h0
   (conv=>whnf);repeat' (first|((first|refine Aa p1 ?_|refine Aa p2 ?_|refine Aa pA ?_|refine Aa pS ?_);rintro _ rfl;conv=>whnf)|(refine Bo Ub (fun _=>?_) (fun h=>absurd trivial h);conv=>whnf)|(refine kA ?_;conv=>whnf)|(refine Br.mk (fun hc=>?_) fun hc=>?_<;>first|exact hc.elim|conv=>whnf)|(refine kB ?_))
   all_goals first|rfl|(exfalso;omega)
  obtain⟨sN,sE,sI⟩:=Ae0 hck (by rw[hcd]) (by rw[hcd]) h0
  have KN:=Um hck h0
  have hok:=Aby hg hc
  have happ:BU g c=((BU g c).1,0):=by rw[← h0]
  rw[h0]at pA
  obtain⟨t,ft,hT,pU⟩:=Ah0 (t:=s) (u:=s) fs hg (by omega) (by omega) hck hS hc happ hok KN
  rw[ArL]at pU
  generalize (BU g c).1=h at hn' sN sE KN hok hT
  have hl':=JM hn'
  have hc':AZ h'=0:=(Ny hn').trans KN
  have hT':NP h' t:=hT.sam hn'.symm
  obtain⟨c2,hcd2⟩:∃c:GC,c=⟨7,g.BA,0,0,[],⟨0,0,0,[],false,[]⟩⟩:=⟨_,rfl⟩
  have ArM:c2.av=.agg [.int .i64 7,.int .i64 g.BA,.int .i64 0,.int .i64 0,.str [],.int .i64 0,.int .i64 0,.int .i64 0,.str [],.sl false []]:=by rw[hcd2];rfl
  have hc2:c2.ok:=by rw[hcd2];exact⟨(show I64 7 by unfold I64;decide),hnx,(show I64 0 by unfold I64;decide),(show I64 0 by unfold I64;decide),(by show(0:Nat)<2^63;decide),zok⟩
  have hEl:h.edges.length=g.edges.length+1:=by rw[sE];simp
  have hN2:h'.nodes.length≤100:=by rw[hl'.1,sN];omega
  have hE2:h'.edges.length≤200:=by rw[hl'.2,hEl];omega
  obtain⟨d0,dN,dE⟩:=Ae2 (h:=BL h) (c:=c2) (E:=(g.edges.map Gq)) (e:=Gq ⟨c.id,c.fr,c.to,c.name,false,[]⟩) (by rw[← KN];exact Ny (YI h)) (by show h.edges.map Gq=_;rw[sE,List.map_append];rfl)
   (fun x hx=>by obtain⟨y,hy,rfl⟩:=List.mem_map.1 hx;have:=(AdE hck).e y hy;rw[hcd];exact this) (by rw[hcd2]) (by rw[hcd2,hcd];rfl) (by rw[hcd]at sI;rw[hcd2];exact sI) (by rw[hcd2]) (by rw[hcd2]) (by rw[hcd2]) (by rw[hcd2];exact⟨rfl,rfl,rfl,rfl,rfl⟩)
  obtain⟨k0,kS⟩:(BU h' c2).2=0∧BL (BU h' c2).1=BL (BU (BL h) c2).1:=by
   have hs:=Ti (g:=h') (h:=BL h) (by rw[YI];exact hn') c2
   have hcn:AZ (BL h)=0:=by rw[← KN];exact Ny (YI h)
   have a0:=Aci hcn d0
   have b1:(stepG h' c2).1=0:=hs.1.trans a0.1
   have b2:BU h' c2=((stepG h' c2).2,0):=by unfold BU;rw[if_neg (fun k=>k hc'),if_neg (fun k=>k b1)]
   rw[b2,a0.2]
   exact⟨rfl,hs.2⟩
  have hk0:=Um hc' k0
  have hko:=Aby ho' hc2
  have ArN:BU h' c2=((BU h' c2).1,0):=by rw[← k0]
  obtain⟨u,fu,hU,pV⟩:=Ah0 (t:=s) (u:=s) ft ho' hN2 hE2 hc' hT' hc2 ArN hko hk0
  rw[ArM]at pV
  have hUg:NP g u:=by
   refine hU.ArO ?_ ?_
   ·rw[J6 kS,dN]
    show(h.nodes.map ET).map ET=_
    rw[List.map_map,sN]
    rfl
   ·rw[J7 kS,dE,List.map_map]
    rfl
  have e3:=AqA fu fs
  rw[decide_eq_true (hUg.eqv hS)]at e3
  have x1:=Ahs (s:=t)
  have x2:=Ahs (s:=s)
  have n1:t.edges=s.edges+1:=by
   obtain⟨_,_,_,h1,_⟩:=hT
   obtain⟨_,_,_,h2,_⟩:=hS
   rw[h1,h2,hEl];omega
  have c1:=AhZ hT MN
  have c2':=AhZ hS MN
  have b1:=@I8 h.edges MN
  have b2:=@I8 g.edges MN
  have n2:OO t.types MN=OO s.types MN+1:=by
   rw[c1,c2',sE,AfF]
   congr 1
   exact if_pos (by rw[hcd])
  have x3:=Aht (s:=t) (k:=MN) ft.2.1 (by rw[c1];omega)
  have x4:=Aht (s:=s) (k:=MN) fs.2.1 (by rw[c2'];omega)
  obtain⟨T1,d1,m1,l1,o1,k1,v1⟩:=Aeh hT
  obtain⟨T2,d2,m2,l2,o2,k2,v2⟩:=Aeh hS
  have x5:=Arm (s:=t) l1 (by omega) ft.2.2.2.2.1 (fun p hp=>by have:=v1 p hp;omega)
  have x6:=Arm (s:=s) l2 (by omega) fs.2.2.2.2.1 (fun p hp=>by have:=v2 p hp;omega)
  have n3:EU (s.outs.map fun p=>p.2.headD 0)≤EU (t.outs.map fun p=>p.2.headD 0):=by
   rw[o1,o2]
   exact AfG sN sE d2 m2 m1
  have w1:I64 s.edges:=by obtain⟨_,_,_,h2,_⟩:=hS;unfold I64;omega
  have w2:0≤s.edges∧s.edges≤200:=by obtain⟨_,_,_,h2,_⟩:=hS;omega
  have w3:0≤OO s.types MN∧OO s.types MN≤200:=by rw[c2'];omega
  rw[n1]at x1
  rw[n2]at x3
  generalize EU (s.outs.map fun p=>p.2.headD 0)=z1 at x6 n3
  generalize EU (t.outs.map fun p=>p.2.headD 0)=z2 at x5 n3
  generalize OO s.types MN=z3 at x3 x4 w3
  clear fu fs ft hUg hS hT hT' hU dN dE kS k0 c1 c2' b1 b2 n2 n1 o1 o2 m1 m2 v1 v2 k1 k2 l1 l2 d1 d2 T1 T2
  (conv=>whnf);repeat' (first|((first|refine Aa p1 ?_|refine Aa p2 ?_|refine Aa pA ?_|refine Aa pS ?_|refine Aa pU ?_|refine Aa pV ?_|refine Aa e3 ?_|refine Aa x1 ?_|refine Aa x2 ?_|refine Aa x3 ?_|refine Aa x4 ?_|refine Aa x5 ?_|refine Aa x6 ?_);rintro _ rfl;conv=>whnf)|(refine Bo Ub (fun _=>?_) (fun h=>absurd trivial h);conv=>whnf)|(refine kA ?_;conv=>whnf)|(refine Br.mk (fun hc=>?_) fun hc=>?_<;>first|exact hc.elim|conv=>whnf)|(refine kB ?_))
  all_goals first|rfl|(exfalso;omega)|exact absurd rfl (by assumption)
end AI
end Go.Proofs.YthnehejdkajjhaaGreatDoor
