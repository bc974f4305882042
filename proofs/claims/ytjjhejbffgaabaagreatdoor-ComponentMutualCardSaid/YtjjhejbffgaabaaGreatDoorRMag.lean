/- The arguments of the graph laws, taken apart: values, properties, nodes, edges, graphs. A value in a list of values. Strings in a list. Strings in a list: the reference. HasType, both. Types of edges, entries, the order of entries. The stable sort of entries: swapping. The stable sort of entries: rotating. The order of entries; sorted lists. The stable sort of entries: merging in place. -/
import Derived.Test.YtjjhejbffgaabaaGreatDoorRMaf
import Derived.Test.YtjjhejbffgaabaaGreatDoorRGrCode
import Derived.Test.YtjjhejbffgaabaaGreatDoorRMae
set_option linter.unusedVariables false
set_option maxRecDepth 4000
namespace Go.Proofs.YtjjhejbffgaabaaGreatDoor
namespace AI
structure GV where
 k:Int
 n:Int
 d:Int
 s:List UInt8
 nn:Bool
 l:List AV
def GV.av (v:GV):AV:=.agg [.int .i64 v.k,.int .i64 v.n,.int .i64 v.d,.str v.s,.sl v.nn v.l]
structure GP where
 key:List UInt8
 v:GV
def GP.av (p:GP):AV:=.agg [.str p.key,.int .i64 p.v.k,.int .i64 p.v.n,.int .i64 p.v.d,.str p.v.s,.sl p.v.nn p.v.l]
structure GN where
 id:Int
 ln:Bool
 labels:List (List UInt8)
 pn:Bool
 props:List GP
def GN.av (n:GN):AV:=.agg [.int .i64 n.id,.sl n.ln (vs .str n.labels),.sl n.pn (vs GP.av n.props)]
structure GE where
 id:Int
 fr:Int
 to:Int
 ty:List UInt8
 pn:Bool
 props:List GP
def GE.av (n:GE):AV:=.agg [.int .i64 n.id,.int .i64 n.fr,.int .i64 n.to,.str n.ty,.sl n.pn (vs GP.av n.props)]
structure GG where
 nn:Bool
 nodes:List GN
 en:Bool
 edges:List GE
 Gf:Int
 Ih:Int
def GG.av (g:GG):AV:=.agg [.sl g.nn (vs GN.av g.nodes),.sl g.en (vs GE.av g.edges),.int .i64 g.Gf,.int .i64 g.Ih]
def I64 (z:Int):Prop:=-2^63≤z∧z<2^63
def Ln {α:Type} (l:List α):Prop:=l.length<2^63
def GV.ok (v:GV):Prop:=I64 v.k∧I64 v.n∧I64 v.d∧Ln v.s∧Ln v.l∧(v.nn=false→v.l=[])∧∀x∈v.l,Like Tryz.prog 53 x
def GP.ok (p:GP):Prop:=Ln p.key∧p.v.ok
def GN.ok (n:GN):Prop:=I64 n.id∧Ln n.labels∧(n.ln=false→n.labels=[])∧(∀ s∈n.labels,Ln s)∧Ln n.props∧(n.pn=false→n.props=[])∧∀p∈n.props,p.ok
def GE.ok (e:GE):Prop:=I64 e.id∧I64 e.fr∧I64 e.to∧Ln e.ty∧Ln e.props∧(e.pn=false→e.props=[])∧∀p∈e.props,p.ok
def GG.ok (g:GG):Prop:=Ln g.nodes∧(g.nn=false→g.nodes=[])∧(∀ n∈g.nodes,n.ok)∧Ln g.edges∧(g.en=false→g.edges=[])∧(∀ e∈g.edges,e.ok)∧I64 g.Gf∧I64 g.Ih
theorem Ti:Tryz.prog.cellsOf 3=1:=by kernel_rfl
theorem KL:Tryz.prog.cellsOf 9=1:=by kernel_rfl
theorem TP:Tryz.prog.cellsOf 26=1:=by kernel_rfl
theorem Xg:Tryz.prog.cellsOf 51=1:=by kernel_rfl
theorem Qc:Tryz.prog.cellsOf 53=5:=by kernel_rfl
theorem AcZ:Tryz.prog.cellsOf 109=6:=by kernel_rfl
theorem Zk:Tryz.prog.cellsOf 39=1:=by kernel_rfl
theorem Ag9:Tryz.prog.cellsOf 41=3:=by kernel_rfl
theorem AeF:Tryz.prog.cellsOf 22=1:=by kernel_rfl
theorem Aha:Tryz.prog.cellsOf 43=5:=by kernel_rfl
theorem AeG:Tryz.prog.cellsOf 23=1:=by kernel_rfl
theorem YW:Tryz.prog.cellsOf 25=4:=by kernel_rfl
theorem Ak8 {l:List AV} (h:l.length=3):∃a b c,l=[a,b,c]:=by
 rcases l with _|⟨a,_|⟨b,_|⟨c,_|⟨d,r⟩⟩⟩⟩<;>simp at h
 exact⟨a,b,c,rfl⟩
theorem Ala {l:List AV} (h:l.length=4):∃a b c d,l=[a,b,c,d]:=by
 rcases l with _|⟨a,_|⟨b,_|⟨c,_|⟨d,_|⟨e,r⟩⟩⟩⟩⟩<;>simp at h
 exact⟨a,b,c,d,rfl⟩
theorem Aja {l:List AV} (h:l.length=5):∃a b c d e,l=[a,b,c,d,e]:=by
 rcases l with _|⟨a,_|⟨b,_|⟨c,_|⟨d,_|⟨e,_|⟨f,r⟩⟩⟩⟩⟩⟩<;>simp at h
 exact⟨a,b,c,d,e,rfl⟩
theorem Af3 {l:List AV} (h:l.length=6):∃a b c d e f,l=[a,b,c,d,e,f]:=by
 rcases l with _|⟨a,_|⟨b,_|⟨c,_|⟨d,_|⟨e,_|⟨f,_|⟨g,r⟩⟩⟩⟩⟩⟩⟩<;>simp at h
 exact⟨a,b,c,d,e,f,rfl⟩
theorem AbL {n:Int} (h:(Lit.int .i64 n).wf=true):I64 n:=by
 simp[Lit.wf]at h
 have h1:IntKind.i64.min=-2^63:=by rfl
 have h2:IntKind.i64.max=2^63-1:=by rfl
 unfold I64
 omega
theorem QJ {α:Type} {l:List α} (h:l.length≤maxLen):Ln l:=by unfold Ln;have:=Zx;omega
theorem Ef {d:Nat} {cs:List AV} (h:Cc Tryz.prog d 3 cs):∃n,cs=[.int .i64 n]∧I64 n:=by
 obtain⟨k,e1,h1⟩:=SV Tryz.underlying3 h
 exact⟨k,e1,AbL h1⟩
theorem NM {d:Nat} {cs:List AV} (h:Cc Tryz.prog d 9 cs):∃n,cs=[.str n]∧Ln n:=by
 obtain⟨k,e1,h1⟩:=Ns Tryz.underlying9 h
 exact⟨k,e1,QJ h1⟩
theorem IG {d:Nat} {cs:List AV} (h:Cc Tryz.prog d 53 cs):∃v:GV,cs=[.int .i64 v.k,.int .i64 v.n,.int .i64 v.d,.str v.s,.sl v.nn v.l]∧v.ok:=by
 obtain⟨d',rfl,g1,g2⟩:=CW Tryz.underlying53 h
 rw[Qc]at g1
 obtain⟨a,b,c,e,f,rfl⟩:=Aja g1
 clear g1
 simp only[List.forall_mem_cons]at g2
 obtain⟨f1,f2,f3,f4,f5,_⟩:=g2
 simp only[Ti,KL,Xg,List.drop_zero,List.drop_succ_cons,List.take_succ_cons,List.take_zero]at f1 f2 f3 f4 f5
 obtain⟨k,e1,h1⟩:=Ef f1
 obtain⟨n,e2,h2⟩:=Ef f2
 obtain⟨m,e3,h3⟩:=Ef f3
 obtain⟨s,e4,h4⟩:=NM f4
 obtain⟨d'',_,nl,xs,e5,h5,h6,h7⟩:=IB Tryz.underlying51 f5
 cases e1;cases e2;cases e3;cases e4;cases e5
 exact⟨⟨k,n,m,s,nl,xs⟩,rfl,h1,h2,h3,h4,QJ h6,h5,fun x hx=>⟨_,h7 x hx⟩⟩
theorem Xr {a:AV} (h:Like Tryz.prog 53 a):∃v:GV,a=v.av∧v.ok:=by
 obtain⟨d,h⟩:=h
 obtain⟨cs,rfl,h0⟩:=Dq Tryz.underlying53 h
 obtain⟨v,rfl,h1⟩:=IG h0
 exact⟨v,rfl,h1⟩
theorem AaG {d:Nat} {a:AV} (h:like Tryz.prog d 109 a):∃v:GP,a=v.av∧v.ok:=by
 obtain⟨cs,rfl,h0⟩:=Dq Tryz.underlying109 h
 obtain⟨d',rfl,g1,g2⟩:=CW Tryz.underlying109 h0
 rw[AcZ]at g1
 obtain⟨a,b,c,e,f,g,rfl⟩:=Af3 g1
 clear g1
 simp only[List.forall_mem_cons]at g2
 obtain⟨f1,f2,_⟩:=g2
 simp only[KL,Qc,List.drop_zero,List.drop_succ_cons,List.take_succ_cons,List.take_zero]at f1 f2
 obtain⟨s,e1,h1⟩:=NM f1
 obtain⟨v,e2,h2⟩:=IG f2
 cases e1;cases e2
 exact⟨⟨s,v⟩,rfl,h1,h2⟩
theorem JB {α:Type} {f:α→AV} {Q:α→Prop} {d:Nat} {t e:TypeId} {cs:List AV} (hu:Tryz.prog.underlying t=some (.slice e)) (he:∀d x,like Tryz.prog d e x→∃y,x=f y∧Q y) (h:Cc Tryz.prog d t cs):
 ∃nn l,cs=[.sl nn (vs f l)]∧(nn=false→l=[])∧Ln l∧∀y∈l,Q y:=by
 obtain⟨d',rfl,nn,xs,rfl,h0,h1,h2⟩:=IB hu h
 obtain⟨l,rfl,h3⟩:=Md (f:=f) (Q:=Q) fun x hx=>he d' x (h2 x hx)
 exact⟨nn,l,rfl,fun h=>by have:=h0 h;simpa using this,QJ (by simpa using h1),h3⟩
theorem Ac0 {d:Nat} {a:AV} (h:like Tryz.prog d 9 a):∃s:List UInt8,a=.str s∧Ln s:=by
 obtain⟨k,e1,h1⟩:=O5 Tryz.underlying9 h
 exact⟨k,e1,QJ h1⟩
theorem AaF {d:Nat} {a:AV} (h:like Tryz.prog d 43 a):∃v:GE,a=v.av∧v.ok:=by
 obtain⟨cs,rfl,h0⟩:=Dq Tryz.underlying43 h
 obtain⟨d',rfl,g1,g2⟩:=CW Tryz.underlying43 h0
 rw[Aha]at g1
 obtain⟨a,b,c,e,f,rfl⟩:=Aja g1
 clear g1
 simp only[List.forall_mem_cons]at g2
 obtain⟨f1,f2,f3,f4,f5,_⟩:=g2
 simp only[Ti,KL,Zk,List.drop_zero,List.drop_succ_cons,List.take_succ_cons,List.take_zero]at f1 f2 f3 f4 f5
 obtain⟨k,e1,h1⟩:=Ef f1
 obtain⟨n,e2,h2⟩:=Ef f2
 obtain⟨m,e3,h3⟩:=Ef f3
 obtain⟨s,e4,h4⟩:=NM f4
 obtain⟨pn,P,e5,h5,h5a,h5b⟩:=JB (f:=GP.av) (Q:=GP.ok) Tryz.underlying39 (fun d x h=>AaG h) f5
 cases e1;cases e2;cases e3;cases e4;cases e5
 exact⟨⟨k,n,m,s,pn,P⟩,rfl,h1,h2,h3,h4,h5a,h5,h5b⟩
theorem Us {l:List AV} (h:∀x∈l,Like Tryz.prog 53 x) (i:Nat):
 ∃g:GV,∀hi:i<l.length,nth l (Int.toNat (Nat.cast i))=some g.av∧l[i]=g.av∧g.ok:=by
 by_cases hi:i<l.length
 ·obtain⟨g,e,hg⟩:=Xr (h _ (List.getElem_mem hi))
  exact⟨g,fun _=>⟨by rw[← e];exact nR hi,e,hg⟩⟩
 ·exact⟨⟨0,0,0,[],true,[]⟩,fun h=>absurd h hi⟩
theorem Ak5 {l:List (List UInt8)} {x:List UInt8} {nn:Bool} (hl:l.length<2^63):AQ (Ac tab) 71 [.sl nn (vs .str l),.str x] (fun v=>∃z,v=.int .i64 z∧(0≤z↔x∈l)):=by
 refine Ai rfl rfl ?_
 (conv=>whnf);repeat' (first|(refine kA ?_;conv=>whnf)|(refine Br.mk (fun hc=>?_) fun hc=>?_<;>first|exact hc.elim|conv=>whnf)  |(refine kB ?_))
 refine Ah (fun m env s=>∃i:Nat,m=l.length-i∧env=[(0,.sl nn (vs .str l)),(1,.str x),(7,.int .i64 l.length),(8,.int .i64 i)]∧s=⟨[],0⟩∧x∉l.take i) ?_ _ _ _ ⟨0,rfl,by simp,rfl,by simp⟩
 rintro _ _ _ ⟨i,rfl,rfl,rfl,hx⟩
 refine⟨rfl,?_⟩
 (conv=>whnf);repeat' (first|(refine kA ?_;conv=>whnf)|(refine Br.mk (fun hc=>?_) fun hc=>?_<;>first|exact hc.elim|conv=>whnf)  |(refine kB ?_))
 ·subst hc;exact⟨_,rfl,by simp⟩
 ·exact again.mk ⟨_,by omega,i+1,rfl,rfl,rfl,nms (by omega) hx (fun h=>hc h.symm)⟩
 ·rw[EJ hc]at hx;exact⟨_,rfl,by simp[hx]⟩
theorem Ahv {l:List (List UInt8)} {x:List UInt8} {nn:Bool} (hl:l.length<2^63):AQ (Ac tab) 40 [.sl nn (vs .str l),.str x] (· =.bool (decide (x∈l))):=by
 refine Ai rfl rfl ?_
 (conv=>whnf);repeat' (first|(refine kA ?_;conv=>whnf)|(refine Br.mk (fun hc=>?_) fun hc=>?_<;>first|exact hc.elim|conv=>whnf)  |(refine kB ?_))
 refine Aa (Ak5 hl) ?_
 rintro _ ⟨z,rfl,hz⟩
 (conv=>whnf);repeat' (first|(refine kA ?_;conv=>whnf)|(refine Br.mk (fun hc=>?_) fun hc=>?_<;>first|exact hc.elim|conv=>whnf)  |(refine kB ?_))
 ·exact GK (hz.1 hc)
 ·exact EI (mt hz.2 hc)
def HT (l:List (List UInt8)) (e:GE):Prop:=l.length=0∨e.ty∈l
instance (l:List (List UInt8)) (e:GE):Decidable (HT l e):=by unfold HT;infer_instance
theorem Vq {l:List (List UInt8)} {e:GE} {nn:Bool} (hl:l.length<2^63):AQ (Ac tab) 17 [e.av,.sl nn (vs .str l)] (· =.bool (decide (HT l e))):=by
 refine Ai rfl rfl ?_
 (conv=>whnf);repeat' (first|(refine kA ?_;conv=>whnf)|(refine Br.mk (fun hc=>?_) fun hc=>?_<;>first|exact hc.elim|conv=>whnf)|(refine Gu (Ahv hl) (fun hc=>?_) (fun hc=>?_)<;>conv=>whnf)|(refine kB ?_))
 all_goals first|exact GK (by unfold HT;first|(left;omega)|(right;assumption))|exact EI (by unfold HT;rintro(h|h);omega;contradiction)
structure Bq where
 fr:Int
 to:Int
 ed:Int
def Bq.av (a:Bq):AV:=.agg [.int .i64 a.fr,.int .i64 a.to,.int .i64 a.ed]
theorem Bq.I7 {a b:Bq} (h:a.av=b.av):a=b:=by
 cases a;cases b;simp only[Bq.av]at h;cases h;rfl
def stepOf (e:GE) (id dir:Int):Option Bq:=
 if(dir=1∨dir=3)∧e.fr=id then some ⟨id,e.to,e.id⟩
 else if(dir=2∨dir=3)∧e.to=id then some ⟨id,e.fr,e.id⟩
 else none
def Af2 (x y:Bq):Int:=if Kv x.to y.to=0 then Kv x.ed y.ed else Kv x.to y.to
theorem Aiq {x y:Int} {nn:Bool}:AQ (Ac tab) 119 [.sl nn [.int .i64 x,.int .i64 y]] (· =.int .i64 (if x=0 then y else x)):=by
 refine Ai rfl rfl ?_
 (conv=>whnf);repeat' (first|(refine kA ?_;conv=>whnf)|(refine Br.mk (fun hc=>?_) fun hc=>?_<;>first|exact hc.elim|conv=>whnf)  |(refine kB ?_))
 refine Jy ?_ rfl
 (conv=>whnf);repeat' (first|(refine kA ?_;conv=>whnf)|(refine Br.mk (fun hc=>?_) fun hc=>?_<;>first|exact hc.elim|conv=>whnf)  |(refine kB ?_))
 ·rw[if_pos hc]
  refine Jy ?_ rfl
  (conv=>whnf);repeat' (first|(refine kA ?_;conv=>whnf)|(refine Br.mk (fun hc=>?_) fun hc=>?_<;>first|exact hc.elim|conv=>whnf)  |(refine kB ?_))
  ·refine Jy ?_ rfl
   (conv=>whnf);repeat' (first|(refine kA ?_;conv=>whnf)|(refine Br.mk (fun hc=>?_) fun hc=>?_<;>first|exact hc.elim|conv=>whnf)  |(refine kB ?_))
   ·exact absurd hc (by simp)
   ·rename_i h2;rw[h2];rfl
  ·rfl
  ·exact absurd hc (by simp)
 ·rw[if_neg hc];rfl
 ·exact absurd hc (by simp)
theorem Un {x y:Bq}:AQ (Ac tab) 118 [x.av,y.av] (· =.int .i64 (Af2 x y)):=by
 refine Ai rfl rfl ?_
 (conv=>whnf);repeat' (first|(refine kA ?_;conv=>whnf)|(refine Br.mk (fun hc=>?_) fun hc=>?_<;>first|exact hc.elim|conv=>whnf)|((first|refine Aa compare ?_|refine Aa Aiq ?_);rintro _ rfl;conv=>whnf)|(refine kB ?_))
 rfl
def A0:Bq:=⟨0,0,0⟩
def sw (l:List Bq) (i j:Nat):List Bq:=(l.set i (l.getD j A0)).set j (l.getD i A0)
@[simp] theorem Aho (l:List Bq) (i j:Nat):(sw l i j).length=l.length:=by simp[sw]
def W9 (l:List Bq) (a b:Nat):Nat→List Bq
 |0=>l
 |i+1=>sw (W9 l a b i) (a+i) (b+i)
@[simp] theorem RN (l:List Bq) (a b:Nat):∀i,(W9 l a b i).length=l.length
 |0=>rfl
 |i+1=>by simp[W9,RN l a b i]
theorem nA {l:List Bq} {z:Int} (i:Nat) (hz:z=i) (h:i<l.length):nth (vs Bq.av l) (Int.toNat z)=some (l.getD i A0).av:=by
 rw[nVz i hz h];simp[h]
theorem tA {l:List Bq} {z:Int} (i:Nat) (hz:z=i) {x y:Bq}:(vs Bq.av l).set (Int.toNat z) (Bl y.av 0 (.agg (List.take 3 (List.drop 0 x.av.cells))))=vs Bq.av (l.set i x):=by
 subst hz
 show(vs Bq.av l).set i x.av=_
 simp[vs,List.map_set]
theorem AiX {AX:Obj} {g c len:Nat} {nn cl:Bool} {fv:AV} {l:List Bq} {a b n:Nat} (hl:len=l.length) (hab:a<b) (h2:b+n≤len) (hs:len<2^61):
 AY (Ac tab) 204 [.own 1 g 0 len,.int .i64 a,.int .i64 b,.int .i64 n,fv] ⟨[AX,.arr g 3 nn cl (vs Bq.av l)],c⟩ fun out s'=>∃c',out=.ok (.Du [])∧s'=⟨[AX,.arr g 3 nn cl (vs Bq.av (W9 l a b n))],c'⟩:=by
 refine AL rfl rfl ?_
 (conv=>whnf);repeat' (first|(refine kA ?_;conv=>whnf)|(refine Br.mk (fun hc=>?_) fun hc=>?_<;>first|exact hc.elim|conv=>whnf)  |(refine kB ?_))
 refine Ah (fun m env s=>∃(i c:Nat) (L:List Bq),i≤n∧L=W9 l a b i∧m=n-i∧env=[(0,.own 1 g 0 len),(1,.int .i64 a),(2,.int .i64 b),(3,.int .i64 n),(10,.int .i64 i)]∧s=⟨[AX,.arr g 3 nn cl (vs Bq.av L)],c⟩) ?_ _ _ _ ⟨0,c,l,by omega,rfl,rfl,rfl,rfl⟩
 rintro _ _ _ ⟨i,c,L,hi,hL,rfl,rfl,rfl⟩
 refine⟨rfl,?_⟩
 have hll:L.length=len:=by rw[hL,RN,hl]
 (conv=>whnf);repeat' (first|(apply Ak;(· first|exact nA (a+i) (by omega) (by first|omega|(simp;omega)));conv=>whnf)|(apply Ak;(· first|exact nA (b+i) (by omega) (by first|omega|(simp;omega)));conv=>whnf)|(apply Bj;(· exact tA (a+i) (by omega));conv=>whnf)|(apply Bj;(· exact tA (b+i) (by omega));conv=>whnf)|(refine kA ?_;conv=>whnf)|(refine Br.mk (fun hc=>?_) fun hc=>?_<;>first|exact hc.elim|conv=>whnf)|(refine kB ?_))
 ·exact again.mk ⟨_,by omega,i+1,_,_,by omega,by rw[hL];rfl,rfl,rfl,rfl⟩
 ·obtain rfl:i=n:=by omega
  exact⟨_,rfl,by rw[hL]⟩
theorem XE {X Y Z:List Bq} {x y:Bq} {i j:Nat} (hi:i=X.length) (hj:j=X.length+1+Y.length):sw (X++x::(Y++y::Z)) i j=X++y::(Y++x::Z):=by
 subst hi hj
 have e1:(X++x::(Y++y::Z)).getD X.length A0=x:=by simp[List.getD]
 have e2:(X++x::(Y++y::Z)).getD (X.length+1+Y.length) A0=y:=by
  rw[List.getD,List.getElem?_append_right (by omega),show X.length+1+Y.length-X.length=Y.length+1 by omega]
  simp
 unfold sw
 rw[e1,e2,List.set_append_right _ _ (Nat.le_refl _),Nat.sub_self,List.set_cons_zero,List.set_append_right _ _ (by omega),show X.length+1+Y.length-X.length=Y.length+1 by omega,List.set_cons_succ,List.set_append_right _ _ (Nat.le_refl _),Nat.sub_self,List.set_cons_zero]
theorem Ze {A P M Q B:List Bq} (hpq:P.length=Q.length):∀i,i≤P.length→
 W9 (A++(P++(M++(Q++B)))) A.length (A.length+P.length+M.length) i=A++(Q.take i++(P.drop i++(M++(P.take i++(Q.drop i++B)))))
 |0,_=>by simp[W9]
 |i+1,h=>by
  rw[W9,Ze hpq i (by omega),List.drop_eq_getElem_cons (by omega:i<P.length),List.drop_eq_getElem_cons (by omega:i<Q.length),List.take_succ_eq_append_getElem (by omega:i<P.length),List.take_succ_eq_append_getElem (by omega:i<Q.length)]
  have:=XE (X:=A++Q.take i) (Y:=P.drop (i+1)++(M++P.take i)) (Z:=Q.drop (i+1)++B) (x:=P[i]) (y:=Q[i]) (i:=A.length+i) (j:=A.length+P.length+M.length+i) (by simp;omega) (by simp;omega)
  simp only[List.append_assoc,List.cons_append,List.nil_append]at this ⊢
  exact this
theorem AcK {AX:Obj} {g c len:Nat} {nn cl:Bool} {fv:AV} {A P M Q B:List Bq} {a b n:Int} (hl:len=(A++(P++(M++(Q++B)))).length) (ha:a=A.length) (hb:b=A.length+P.length+M.length) (hn:n=P.length) (hq:P.length=Q.length) (hp:0<P.length) (hs:len<2^61):
 AY (Ac tab) 204 [.own 1 g 0 len,.int .i64 a,.int .i64 b,.int .i64 n,fv] ⟨[AX,.arr g 3 nn cl (vs Bq.av (A++(P++(M++(Q++B)))))],c⟩ fun out s'=>∃c',out=.ok (.Du [])∧s'=⟨[AX,.arr g 3 nn cl (vs Bq.av (A++(Q++(M++(P++B)))))],c'⟩:=by
 subst ha hn
 obtain rfl:b=((A.length+P.length+M.length:Nat):Int):=by omega
 have:=AiX (AX:=AX) (g:=g) (c:=c) (nn:=nn) (cl:=cl) (fv:=fv) (l:=A++(P++(M++(Q++B)))) (a:=A.length) (b:=A.length+P.length+M.length) (n:=P.length) hl (by omega) (by simp at hl;omega) hs
 rw[Ze hq _ (Nat.le_refl _)]at this
 have h1:Q.take P.length=Q:=by rw[hq];exact List.take_length
 have h2:Q.drop P.length=[]:=by rw[hq];exact List.drop_length
 rw[h1,h2,List.drop_length,List.take_length]at this
 exact this
theorem AjQ {AX:Obj} {g c len:Nat} {nn cl:Bool} {A U V B:List Bq} {a m b:Int} (hl:len=(A++(U++(V++B))).length) (ha:a=A.length) (hm:m=A.length+U.length) (hb:b=A.length+U.length+V.length) (hu:0<U.length) (hv:0<V.length) (hs:len<2^61):
 AY (Ac tab) 193 [.own 1 g 0 len,.int .i64 a,.int .i64 m,.int .i64 b,(.fn 118 [])] ⟨[AX,.arr g 3 nn cl (vs Bq.av (A++(U++(V++B))))],c⟩ fun out s'=>∃c',out=.ok (.Du [])∧s'=⟨[AX,.arr g 3 nn cl (vs Bq.av (A++(V++(U++B))))],c'⟩:=by
 simp only[List.length_append]at hl
 refine AL rfl rfl ?_
 (conv=>whnf);repeat' (first|(refine kA ?_;conv=>whnf)|(refine Br.mk (fun hc=>?_) fun hc=>?_<;>first|exact hc.elim|conv=>whnf)  |(refine kB ?_))
 refine Ah (fun k env s=>∃(i j c:Nat) (A' P Q B' L:List Bq),k=i+j∧L=A'++(P++(Q++B'))∧P.length=i∧Q.length=j∧0<i∧0<j∧A'.length+P.length=A.length+U.length∧A'++(Q++(P++B'))=A++(V++(U++B))∧(A'++(P++(Q++B'))).length=len∧env=[(0,.own 1 g 0 len),(2,.int .i64 m),(4,(.fn 118 [])),(10,.int .i64 i),(11,.int .i64 j)]∧s=⟨[AX,.arr g 3 nn cl (vs Bq.av L)],c⟩) ?_ _ _ _ ⟨U.length,V.length,c,A,U,V,B,_,rfl,rfl,rfl,rfl,hu,hv,rfl,rfl,by simp only[List.length_append];omega,?_,rfl⟩
 rotate_left
 ·rw[show m-a=U.length by omega,show b-m=V.length by omega]
 rintro _ _ _ ⟨i,j,c,A',P,Q,B',L,rfl,hL0,hP,hQ,hi,hj,hAP,hT,hL,rfl,rfl⟩
 refine⟨rfl,?_⟩
 have hL2:=hL
 simp only[List.length_append]at hL2
 (conv=>whnf);repeat' (first|(refine kA ?_;conv=>whnf)|(refine Br.mk (fun hc=>?_) fun hc=>?_<;>first|exact hc.elim|conv=>whnf)  |(refine kB ?_))
 ·subst hL0
  refine(AcK (A:=A') (P:=P) (M:=[]) (Q:=Q) (B:=B') hL.symm (by omega) (by simp;omega) (by omega) (by omega) (by omega) hs).mono ?_
  rintro _ _ ⟨c',rfl,rfl⟩
  (conv=>whnf);repeat' (first|(refine kA ?_;conv=>whnf)|(refine Br.mk (fun hc=>?_) fun hc=>?_<;>first|exact hc.elim|conv=>whnf)  |(refine kB ?_))
  exact⟨_,rfl,by rw[← hT];rfl⟩
 ·obtain⟨P1,P2,rfl,h1⟩:∃P1 P2,P=P1++P2∧P1.length=j:=⟨P.take j,P.drop j,(List.take_append_drop j P).symm,by simp;omega⟩
  rw[List.append_assoc]at hL0
  subst hL0
  simp only[List.length_append]at hL2 hP hAP
  refine(AcK (A:=A') (P:=P1) (M:=P2) (Q:=Q) (B:=B') (by simp only[List.length_append];omega) (by omega) (by omega) (by omega) (by omega) (by omega) hs).mono ?_
  rintro _ _ ⟨c',rfl,rfl⟩
  (conv=>whnf);repeat' (first|(refine kA ?_;conv=>whnf)|(refine Br.mk (fun hc=>?_) fun hc=>?_<;>first|exact hc.elim|conv=>whnf)  |(refine kB ?_))
  refine again.mk ⟨_,by omega,i-j,j,c',A'++Q,P2,P1,B',_,rfl,by simp only[List.append_assoc],by omega,by omega,by omega,by omega,by simp only[List.length_append];omega,by rw[← hT];simp only[List.append_assoc],by simp only[List.length_append];omega,?_,rfl⟩
  rw[show ((i-j:Nat):Int)=i-j by omega]
 ·obtain⟨Q1,Q2,rfl,h1⟩:∃Q1 Q2,Q=Q1++Q2∧Q2.length=i:=⟨Q.take (j-i),Q.drop (j-i),(List.take_append_drop (j-i) Q).symm,by simp;omega⟩
  rw[List.append_assoc]at hL0
  subst hL0
  simp only[List.length_append]at hL2 hQ
  refine(AcK (A:=A') (P:=P) (M:=Q1) (Q:=Q2) (B:=B') (by simp only[List.length_append];omega) (by omega) (by omega) (by omega) (by omega) (by omega) hs).mono ?_
  rintro _ _ ⟨c',rfl,rfl⟩
  (conv=>whnf);repeat' (first|(refine kA ?_;conv=>whnf)|(refine Br.mk (fun hc=>?_) fun hc=>?_<;>first|exact hc.elim|conv=>whnf)  |(refine kB ?_))
  refine again.mk ⟨_,by omega,i,j-i,c',A',Q2,Q1,P++B',_,rfl,rfl,by omega,by omega,by omega,by omega,by omega,by rw[← hT];simp only[List.append_assoc],by simp only[List.length_append];omega,?_,rfl⟩
  rw[show ((j-i:Nat):Int)=j-i by omega]
def lt (x y:Bq):Prop:=x.to<y.to∨(x.to=y.to∧x.ed<y.ed)
def le (x y:Bq):Prop:=¬lt y x
theorem IC {x y:Bq}:Af2 x y<0↔lt x y:=by
 unfold Af2 Kv lt
 repeat' split
 all_goals omega
theorem le_trans {x y z:Bq} (h:le x y) (h2:le y z):le x z:=by unfold le lt at *;omega
theorem Vo {x y:Bq} (h:lt x y):le x y:=by unfold le lt at *;omega
theorem le_refl (x:Bq):le x x:=by unfold le lt;omega
theorem VK {x y z:Bq} (h:le x y) (h2:lt y z):lt x z:=by unfold le lt at *;omega
theorem O7 {x y z:Bq} (h:lt x y) (h2:le y z):lt x z:=by unfold le lt at *;omega
def Ez (l:List Bq):Prop:=l.Pairwise le
theorem PZ {Y:List Bq} (hs:Ez Y) {h:Nat} (hh:h<Y.length):∀u∈Y.take (h+1),le u (Y.getD h A0):=by
 intro u hu
 have e:Y.getD h A0=Y[h]:=by simp[hh]
 rw[e]
 rw[List.take_succ_eq_append_getElem hh,List.mem_append,List.mem_singleton]at hu
 rcases hu with hu|rfl
 ·have h1:Ez (Y.take (h+1)):=List.Pairwise.sublist (List.take_sublist _ _) hs
  rw[List.take_succ_eq_append_getElem hh]at h1
  exact(List.pairwise_append.1 h1).2.2 u hu _ (List.mem_singleton.2 rfl)
 ·exact le_refl _
theorem PX {Y:List Bq} (hs:Ez Y) {h:Nat} (hh:h<Y.length):∀u∈Y.drop h,le (Y.getD h A0) u:=by
 intro u hu
 have e:Y.getD h A0=Y[h]:=by simp[hh]
 rw[e]
 have h1:Ez (Y.drop h):=List.Pairwise.sublist (List.drop_sublist _ _) hs
 rw[List.drop_eq_getElem_cons hh]at hu h1
 rcases List.mem_cons.1 hu with rfl|hu
 ·exact le_refl _
 ·exact(List.pairwise_cons.1 h1).1 u hu
theorem Ez.take {Y:List Bq} (hs:Ez Y) (n:Nat):Ez (Y.take n):=List.Pairwise.sublist (List.take_sublist _ _) hs
theorem Ez.drop {Y:List Bq} (hs:Ez Y) (n:Nat):Ez (Y.drop n):=List.Pairwise.sublist (List.drop_sublist _ _) hs
theorem PY {U V:List Bq} {x:Bq} (hu:Ez U) (hv:Ez V) (h1:∀u∈U,le u x) (h2:∀v∈V,le x v):Ez (U++x::V):=by
 refine List.pairwise_append.2 ⟨hu,List.pairwise_cons.2 ⟨h2,hv⟩,fun u hu v hv=>?_⟩
 rcases List.mem_cons.1 hv with rfl|hv
 ·exact h1 u hu
 ·exact le_trans (h1 u hu) (h2 v hv)
theorem Adz {U V:List Bq} (hu:Ez U) (hv:Ez V) (h:∀u∈U,∀v∈V,le u v):Ez (U++V):=List.pairwise_append.2 ⟨hu,hv,h⟩
theorem AdO {l:List Bq} {i j:Nat} (h:i≠j):sw l i j=sw l j i:=by
 unfold sw;exact List.set_comm _ _ h
theorem AdP {X Z:List Bq} {x y:Bq} {i j:Nat} (hj:j=X.length) (hi:i=X.length+1):sw (X++x::y::Z) i j=X++y::x::Z:=by
 rw[AdO (by omega)]
 exact XE (Y:=[]) hj (by simp;omega)
theorem Ah3 {X Z:List Bq} {x y:Bq} {i j:Nat} (hi:i=X.length) (hj:j=X.length+1):sw (X++x::y::Z) i j=X++y::x::Z:=
 XE (Y:=[]) hi (by simp;omega)
theorem nAt {A Y Z L:List Bq} (hL:L=A++(Y++Z)) {z:Int} (h:Nat) (hz:z=A.length+h) (hh:h<Y.length):nth (vs Bq.av L) (Int.toNat z)=some (Y.getD h A0).av:=by
 subst hL
 rw[nA (A.length+h) (by omega) (by simp;omega)]
 congr 2
 simp only[List.getD]
 rw[List.getElem?_append_right (by omega),Nat.add_sub_cancel_left,List.getElem?_append_left hh]
theorem Abr {A Y Z:List Bq} {x:Bq} {t:Nat} (ht:t<Y.length) {i j:Nat} (hi:i=A.length+t) (hj:j=A.length+t+1):
 sw (A++(Y.take t++(x::(Y.drop t++Z)))) i j=A++(Y.take (t+1)++(x::(Y.drop (t+1)++Z))):=by
 rw[List.drop_eq_getElem_cons ht,List.take_succ_eq_append_getElem ht]
 have:=Ah3 (X:=A++Y.take t) (x:=x) (y:=Y[t]) (Z:=Y.drop (t+1)++Z) (i:=i) (j:=j) (by simp;omega) (by simp;omega)
 simp only[List.append_assoc,List.cons_append,List.nil_append]at this ⊢
 exact this
theorem XF {A Y Z:List Bq} {x:Bq} {t:Nat} (ht:t<Y.length) {i j:Nat} (hi:i=A.length+t+1) (hj:j=A.length+t):
 sw (A++(Y.take (t+1)++(x::(Y.drop (t+1)++Z)))) i j=A++(Y.take t++(x::(Y.drop t++Z))):=by
 rw[List.drop_eq_getElem_cons ht,List.take_succ_eq_append_getElem ht]
 have:=AdP (X:=A++Y.take t) (x:=Y[t]) (y:=x) (Z:=Y.drop (t+1)++Z) (i:=i) (j:=j) (by simp;omega) (by simp;omega)
 simp only[List.append_assoc,List.cons_append,List.nil_append]at this ⊢
 exact this
theorem O6 {A Y Z:List Bq} {x:Bq} {t:Nat} (h0:0<t) (ht:t≤Y.length) {i j:Nat} (hi:i=A.length+(t-1)+1) (hj:j=A.length+(t-1)):
 sw (A++(Y.take t++(x::(Y.drop t++Z)))) i j=A++(Y.take (t-1)++(x::(Y.drop (t-1)++Z))):=by
 obtain⟨t,rfl⟩:∃t',t=t'+1:=⟨t-1,by omega⟩
 exact XF (by omega) hi hj
theorem VA {X Y:List Bq} {P Q:Nat} (sx:Ez X) (sy:Ez Y) (hp:P≤X.length) (h:Q=Y.length∨P=0∨le (X.getD (P-1) A0) (Y.getD Q A0)):∀u∈X.take P,∀v∈Y.drop Q,le u v:=by
 intro u hu v hv
 rcases Nat.lt_or_ge Q Y.length with hq|hq
 ·rcases P with _|P
  ·simp at hu
  ·rcases h with h|h|h
   ·omega
   ·omega
   ·exact le_trans (PZ sx (by omega) u hu) (le_trans h (PX sy hq v hv))
 ·rw[List.drop_of_length_le hq]at hv;simp at hv
theorem AfK {A X Y Z L:List Bq} (hL:L=A++(X++(Y++Z))) {z:Int} (h:Nat) (hz:z=A.length+X.length+h) (hh:h<Y.length):nth (vs Bq.av L) (Int.toNat z)=some (Y.getD h A0).av:=
 nAt (A:=A++X) (Y:=Y) (Z:=Z) (by rw[hL];simp only[List.append_assoc]) h (by simp only[List.length_append];omega) hh
theorem AjT {AX:Obj} {g len:Nat} {nn cl:Bool} (hs:len<2^61) {A X Y Z:List Bq} {c:Nat} {a m b:Int} (hl:len=(A++(X++(Y++Z))).length) (ha:a=A.length) (hm:m=A.length+X.length) (hb:b=A.length+X.length+Y.length) (hx:0<X.length) (hy:0<Y.length) (sx:Ez X) (sy:Ez Y) (h1x:X.length=1):
 AY (Ac tab) 167 [.own 1 g 0 len,.int .i64 a,.int .i64 m,.int .i64 b,.fn 118 []] ⟨[AX,.arr g 3 nn cl (vs Bq.av (A++(X++(Y++Z))))],c⟩ fun out s'=>∃c' W,out=.ok (.Du [])∧s'=⟨[AX,.arr g 3 nn cl (vs Bq.av (A++(W++Z)))],c'⟩∧W.Perm (X++Y)∧Ez W:=by
 have hl0:=hl
 simp only[List.length_append]at hl
 obtain⟨L,hL⟩:∃L,L=A++(X++(Y++Z)):=⟨_,rfl⟩
 rw[← hL]
 have hLl:L.length=len:=by rw[hL,←hl0]
 obtain⟨x,rfl⟩:∃x,X=[x]:=List.length_eq_one_iff.1 h1x
 simp only[List.length_singleton]at hm hb hl hx
 refine AL rfl rfl ?_
 (conv=>whnf);repeat' (first|(refine kA ?_;conv=>whnf)|(refine Br.mk (fun hc=>?_) fun hc=>?_<;>first|exact hc.elim|conv=>whnf)  |(refine kB ?_))
 refine Ah (fun k env s=>∃(p q:Nat) (i j:Int),k=q-p∧p≤q∧q≤Y.length∧(∀ u∈Y.take p,lt u x)∧(∀ u∈Y.drop q,le x u)∧i=A.length+1+p∧j=A.length+1+q∧env=[(0,.own 1 g 0 len),(1,.int .i64 a),(4,.fn 118 []),(10,.int .i64 i),(11,.int .i64 j)]∧s=⟨[AX,.arr g 3 nn cl (vs Bq.av L)],c⟩) ?_ _ _ _ ⟨0,Y.length,_,_,rfl,by omega,by omega,by simp,by simp,by omega,by omega,rfl,rfl⟩
 rintro _ _ _ ⟨p,q,i,j,rfl,h1,h2,h3,h4,h5,h6,rfl,rfl⟩
 refine⟨rfl,?_⟩
 (conv=>whnf);repeat' (first|(refine Vz (2*A.length+2+p+q) (by omega) (by omega) ?_;conv=>whnf)|(apply Bj;(· exact Abb _);conv=>whnf)|(apply Ak;(· first|exact AfK hL ((p+q) / 2) (by simp only[List.length_singleton];omega) (by omega)|exact nAt hL 0 (by omega) (by simp));conv=>whnf)|(refine Aa Un ?_;rintro _ rfl;conv=>whnf)|(refine kA ?_;conv=>whnf)|(refine Br.mk (fun hc=>?_) fun hc=>?_<;>first|exact hc.elim|conv=>whnf)|(refine kB ?_))
 ·exact again.mk ⟨_,by omega,(p+q) / 2+1,q,_,_,rfl,by omega,by omega,fun u hu=>VK (PZ sy (by omega) u hu) (IC.1 hc),h4,by omega,by omega,rfl,rfl⟩
 ·exact again.mk ⟨_,by omega,p,(p+q) / 2,_,_,rfl,by omega,by omega,h3,fun u hu=>le_trans (fun h=>hc (IC.2 h)) (PX sy (by omega) u hu),by omega,by omega,rfl,rfl⟩
 ·obtain rfl:p=q:=by omega
  refine Ah (fun k env s=>∃(t c:Nat) (z:Int) (L':List Bq),k=p-t∧t≤p∧z=A.length+t∧L'=A++(Y.take t++(x::(Y.drop t++Z)))∧env=[(0,.own 1 g 0 len),(10,.int .i64 i),(13,.int .i64 z)]∧s=⟨[AX,.arr g 3 nn cl (vs Bq.av L')],c⟩) ?_ _ _ _ ⟨0,_,_,_,rfl,by omega,by omega,hL,rfl,rfl⟩
  rintro _ _ _ ⟨t,c,z,L',rfl,k1,k2,hL',rfl,rfl⟩
  refine⟨rfl,?_⟩
  have hll:L'.length=len:=by rw[hL'];simp only[List.length_append,List.length_cons,List.length_take,List.length_drop];omega
  (conv=>whnf);repeat' (first|(apply Ak;(· first|exact nA (A.length+t) (by omega) (by first|omega|(simp;omega)));conv=>whnf)|(apply Ak;(· first|exact nA (A.length+t+1) (by omega) (by first|omega|(simp;omega)));conv=>whnf)|(apply Bj;(· exact tA (A.length+t) (by omega));conv=>whnf)|(apply Bj;(· exact tA (A.length+t+1) (by omega));conv=>whnf)|(refine kA ?_;conv=>whnf)|(refine Br.mk (fun hc=>?_) fun hc=>?_<;>first|exact hc.elim|conv=>whnf)|(refine kB ?_))
  ·exact again.mk ⟨_,by omega,t+1,_,_,_,rfl,by omega,by omega,by rw[← Abr (by omega) rfl rfl,←hL'];rfl,rfl,rfl⟩
  ·obtain rfl:t=p:=by omega
   refine⟨_,Y.take t++x::Y.drop t,rfl,by rw[hL'];simp only[List.append_assoc,List.cons_append];rfl,?_,PY (sy.take _) (sy.drop _) (fun u hu=>Vo (h3 u hu)) h4⟩
   exact List.perm_middle.trans (by rw[List.take_append_drop];exact List.Perm.refl _)
theorem AjU {AX:Obj} {g len:Nat} {nn cl:Bool} (hs:len<2^61) {A X Y Z:List Bq} {c:Nat} {a m b:Int} (hl:len=(A++(X++(Y++Z))).length) (ha:a=A.length) (hm:m=A.length+X.length) (hb:b=A.length+X.length+Y.length) (hx:0<X.length) (hy:0<Y.length) (sx:Ez X) (sy:Ez Y) (h1x:X.length≠1) (h1y:Y.length=1):
 AY (Ac tab) 167 [.own 1 g 0 len,.int .i64 a,.int .i64 m,.int .i64 b,.fn 118 []] ⟨[AX,.arr g 3 nn cl (vs Bq.av (A++(X++(Y++Z))))],c⟩ fun out s'=>∃c' W,out=.ok (.Du [])∧s'=⟨[AX,.arr g 3 nn cl (vs Bq.av (A++(W++Z)))],c'⟩∧W.Perm (X++Y)∧Ez W:=by
 have hl0:=hl
 simp only[List.length_append]at hl
 obtain⟨L,hL⟩:∃L,L=A++(X++(Y++Z)):=⟨_,rfl⟩
 rw[← hL]
 have hLl:L.length=len:=by rw[hL,←hl0]
 obtain⟨y,rfl⟩:∃y,Y=[y]:=List.length_eq_one_iff.1 h1y
 simp only[List.length_singleton]at hm hb hl hy
 refine AL rfl rfl ?_
 (conv=>whnf);repeat' (first|(refine kA ?_;conv=>whnf)|(refine Br.mk (fun hc=>?_) fun hc=>?_<;>first|exact hc.elim|conv=>whnf)  |(refine kB ?_))
 refine Ah (fun k env s=>∃(p q:Nat) (i j:Int),k=q-p∧p≤q∧q≤X.length∧(∀ u∈X.take p,le u y)∧(∀ u∈X.drop q,lt y u)∧i=A.length+p∧j=A.length+q∧env=[(0,.own 1 g 0 len),(2,.int .i64 m),(4,.fn 118 []),(14,.int .i64 i),(15,.int .i64 j)]∧s=⟨[AX,.arr g 3 nn cl (vs Bq.av L)],c⟩) ?_ _ _ _ ⟨0,X.length,_,_,rfl,by omega,by omega,by simp,by simp,by omega,by omega,rfl,rfl⟩
 rintro _ _ _ ⟨p,q,i,j,rfl,h1,h2,h3,h4,h5,h6,rfl,rfl⟩
 refine⟨rfl,?_⟩
 (conv=>whnf);repeat' (first|(refine Vz (2*A.length+p+q) (by omega) (by omega) ?_;conv=>whnf)|(apply Bj;(· exact Abb _);conv=>whnf)|(apply Ak;(· first|exact AfK hL 0 (by omega) (by simp)|exact nAt hL ((p+q) / 2) (by omega) (by omega));conv=>whnf)|(refine Aa Un ?_;rintro _ rfl;conv=>whnf)|(refine kA ?_;conv=>whnf)|(refine Br.mk (fun hc=>?_) fun hc=>?_<;>first|exact hc.elim|conv=>whnf)|(refine kB ?_))
 ·exact again.mk ⟨_,by omega,p,(p+q) / 2,_,_,rfl,by omega,by omega,h3,fun u hu=>O7 (IC.1 hc) (PX sx (by omega) u hu),by omega,by omega,rfl,rfl⟩
 ·exact again.mk ⟨_,by omega,(p+q) / 2+1,q,_,_,rfl,by omega,by omega,fun u hu=>le_trans (PZ sx (by omega) u hu) (fun h=>hc (IC.2 h)),h4,by omega,by omega,rfl,rfl⟩
 ·obtain rfl:p=q:=by omega
  refine Ah (fun k env s=>∃(t c:Nat) (z:Int) (L':List Bq),k=t-p∧p≤t∧t≤X.length∧z=A.length+t∧L'=A++(X.take t++(y::(X.drop t++Z)))∧env=[(0,.own 1 g 0 len),(14,.int .i64 i),(17,.int .i64 z)]∧s=⟨[AX,.arr g 3 nn cl (vs Bq.av L')],c⟩) ?_ _ _ _ ⟨X.length,_,_,_,rfl,by omega,by omega,by omega,by rw[hL,List.take_length,List.drop_length];rfl,rfl,rfl⟩
  rintro _ _ _ ⟨t,c,z,L',rfl,k1,k0,k2,hL',rfl,rfl⟩
  refine⟨rfl,?_⟩
  have hll:L'.length=len:=by rw[hL'];simp only[List.length_append,List.length_cons,List.length_take,List.length_drop];omega
  (conv=>whnf);repeat' (first|(apply Ak;(· first|exact nA (A.length+(t-1)) (by omega) (by first|omega|(simp;omega)));conv=>whnf)|(apply Ak;(· first|exact nA (A.length+(t-1)+1) (by omega) (by first|omega|(simp;omega)));conv=>whnf)|(apply Bj;(· exact tA (A.length+(t-1)) (by omega));conv=>whnf)|(apply Bj;(· exact tA (A.length+(t-1)+1) (by omega));conv=>whnf)|(refine kA ?_;conv=>whnf)|(refine Br.mk (fun hc=>?_) fun hc=>?_<;>first|exact hc.elim|conv=>whnf)|(refine kB ?_))
  ·exact again.mk ⟨_,by omega,t-1,_,_,_,rfl,by omega,by omega,by omega,by rw[← O6 (by omega) k0 rfl rfl,←hL'];rfl,rfl,rfl⟩
  ·obtain rfl:t=p:=by omega
   refine⟨_,X.take t++y::X.drop t,rfl,by rw[hL'];simp only[List.append_assoc,List.cons_append];rfl,?_,PY (sx.take _) (sx.drop _) h3 (fun u hu=>Vo (h4 u hu))⟩
   exact List.perm_middle.trans (by rw[List.take_append_drop];exact(List.perm_append_comm (l₁:=X) (l₂:=[y])).symm)
end AI
end Go.Proofs.YtjjhejbffgaabaaGreatDoor
