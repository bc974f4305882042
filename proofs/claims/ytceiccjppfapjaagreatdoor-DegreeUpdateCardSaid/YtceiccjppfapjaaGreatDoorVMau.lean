/- The reference's Apply and ApplyAll are the program's, but for flags. A check does not look at flags: plain. degree.Update and the reference's: the same, but for flags. The worked examples in the degree laws: reckoned by the kernel. Changes as data; the ids that changes name: plain. The law DegreeUpdate, about the evaluator. -/
import Derived.Test.YtceiccjppfapjaaGreatDoorVRcK
import Derived.Test.YtceiccjppfapjaaGreatDoorVApY
import Derived.Test.YtceiccjppfapjaaGreatDoorVCk8
import Derived.Test.YtceiccjppfapjaaGreatDoorVMar
import Derived.Test.YtceiccjppfapjaaGreatDoorVMag
import Derived.Test.YtceiccjppfapjaaGreatDoorVMai
import Derived.Test.YtceiccjppfapjaaGreatDoorVMal
import Derived.Test.YtceiccjppfapjaaGreatDoorVMas
import Derived.Test.YtceiccjppfapjaaGreatDoorVGrCode
set_option linter.unusedVariables false
set_option maxRecDepth 4000
namespace Go.Proofs.YtceiccjppfapjaaGreatDoor
namespace AI
theorem RY.KL {g:GG} (h:RY g) {n:GN} (hm:∃m∈g.nodes,m.id=n.id):RY {g with nodes:=AL BP GN.id n g.nodes}:=
 ⟨fun x hx=>by
  rcases Bf Ak hx with rfl|hx
  ·obtain⟨m,hm,e⟩:=hm;have:=h.n m hm;rw[e]at this;exact this
  ·exact h.n x hx,h.e⟩
theorem RY.RG {g:GG} (h:RY g) {n:GE} (hm:∃m∈g.edges,m.id=n.id):RY {g with edges:=AL BP GE.id n g.edges}:=
 ⟨h.n,fun x hx=>by
  rcases Bf Ak hx with rfl|hx
  ·obtain⟨m,hm,e⟩:=hm;have:=h.e m hm;rw[e]at this;exact this
  ·exact h.e x hx⟩
theorem max_lt {a b c:Int} (h:a<b):a<(if c>b then c else b):=by split<;>omega
theorem Aie {a b c:Int} (h:a<c):a<(if c>b then c else b):=by split<;>omega
theorem RY.node {g:GG} (h:RY g) {c:GC}:RY (AQ g c).2:=by
 unfold AQ
 split
 ·split
  ·exact h
  split
  ·refine⟨fun x hx=>?_,h.e⟩
   rcases Bf Ak hx with rfl|hx
   ·exact Aie (by show c.id<c.id+1;omega)
   ·exact max_lt (h.n x hx)
  ·exact h
 split
 ·exact h
 rename_i n hf
 obtain⟨hn,hz⟩:=Ea hf
 split
 ·split
  ·exact h
  ·exact⟨fun x hx=>h.n x (BX hx),h.e⟩
 split
 ·split
  ·exact h
  split
  ·exact h.KL ⟨n,hn,rfl⟩
  ·exact h
 split
 ·split
  ·exact h.KL ⟨n,hn,rfl⟩
  ·exact h
 split
 ·exact h.KL ⟨n,hn,rfl⟩
 split
 ·exact h.KL ⟨n,hn,rfl⟩
 ·exact h
theorem RY.edge {g:GG} (h:RY g) {c:GC}:RY (Bh g c).2:=by
 unfold Bh
 split
 ·split
  ·exact h
  split
  ·split
   ·refine⟨h.n,fun x hx=>?_⟩
    rcases Bf Ak hx with rfl|hx
    ·exact Aie (by show c.id<c.id+1;omega)
    ·exact max_lt (h.e x hx)
   ·exact h
  ·exact h
 split
 ·exact h
 rename_i n hf
 obtain⟨hn,hz⟩:=Ea hf
 split
 ·exact⟨h.n,fun x hx=>h.e x (BX hx)⟩
 split
 ·exact h.RG ⟨n,hn,rfl⟩
 split
 ·exact h.RG ⟨n,hn,rfl⟩
 ·exact h
theorem RY.step {g:GG} (h:RY g) {c:GC}:RY (stepG g c).2:=by
 unfold stepG
 split
 ·exact h
 split
 ·exact h.node
 ·exact h.edge
theorem AcP {g:GG} (h:Az g=0):RY g:=by
 obtain⟨hf,hn,hN,hE⟩:=Lc h
 refine⟨fun n hm=>?_,fun n hm=>?_⟩
 ·obtain⟨i,hi,rfl⟩:=List.getElem_of_mem hm
  exact(J9 hi (hN i hi)).2.2.1
 ·obtain⟨i,hi,rfl⟩:=List.getElem_of_mem hm
  exact(LX hi (hE i hi)).2.2.1
theorem Me {g h:GG} (e:BM g=BM h):g.nodes.length=h.nodes.length∧g.edges.length=h.edges.length:=by
 have h1:=congrArg (fun x=>x.nodes.length) e
 have h2:=congrArg (fun x=>x.edges.length) e
 simpa[BM]using And.intro h1 h2
theorem LM {g h:GG} (e:BM g=BM h):g.nodes.map ER=h.nodes.map ER:=congrArg GG.nodes e
theorem LP {g h:GG} (e:BM g=BM h):g.edges.map GX=h.edges.map GX:=congrArg GG.edges e
theorem Rk {g h:GG} (e:BM g=BM h):g.Bl=h.Bl∧g.Bg=h.Bg:=⟨congrArg (fun x=>x.Bl) e,congrArg (fun x=>x.Bg) e⟩
theorem AnN {g h:GG} (e:BM g=BM h) {P:GN→Prop} (hP:∀n,P (ER n)↔P n) (k:∀n∈g.nodes,P n):∀n∈h.nodes,P n:=by
 intro n hn
 have:ER n∈g.nodes.map ER:=by rw[LM e];exact List.mem_map_of_mem hn
 obtain⟨m,hm,em⟩:=List.mem_map.1 this
 exact(hP n).1 (by rw[← em];exact(hP m).2 (k m hm))
theorem Aif {g h:GG} (e:BM g=BM h) {P:GE→Prop} (hP:∀n,P (GX n)↔P n) (k:∀n∈g.edges,P n):∀n∈h.edges,P n:=by
 intro n hn
 have:GX n∈g.edges.map GX:=by rw[LP e];exact List.mem_map_of_mem hn
 obtain⟨m,hm,em⟩:=List.mem_map.1 this
 exact(hP n).1 (by rw[← em];exact(hP m).2 (k m hm))
theorem UQ {α:Type} {f:α→α} {key:α→Int} (hk:∀a,key (f a)=key a) {l:List α}:Inc BP key (l.map f)↔Inc BP key l:=by
 unfold Inc
 rw[List.pairwise_map]
 simp only[hk]
theorem DU.sam {g h:GG} (e:BM g=BM h) (a:DU g):DU h where
 lN:=by rw[← (Me e).1];exact a.lN
 lE:=by rw[← (Me e).2];exact a.lE
 iN:=by have:=a.iN;rw[← UQ Rl,LM e,UQ Rl]at this;exact this
 iE:=by have:=a.iE;rw[← UQ Rn,LP e,UQ Rn]at this;exact this
 aN:=AnN e (P:=Xp) (fun n=>⟨fun h=>⟨h.1,h.2,h.3,h.4⟩,fun h=>⟨h.1,h.2,h.3,h.4⟩⟩) a.aN
 aE:=Aif e (P:=Xl) (fun n=>⟨fun h=>⟨h.1,h.2⟩,fun h=>⟨h.1,h.2⟩⟩) a.aE
 bx:=by rw[← (Rk e).1];exact a.bx
 by_:=by rw[← (Rk e).2];exact a.by_
theorem RY.sam {g h:GG} (e:BM g=BM h) (a:RY g):RY h where
 n:=AnN e (P:=fun n=>n.id<h.Bl) (fun n=>Iff.rfl) (by rw[← (Rk e).1];exact a.n)
 e:=Aif e (P:=fun n=>n.id<h.Bg) (fun n=>Iff.rfl) (by rw[← (Rk e).2];exact a.e)
theorem Ll:Fv.ok:=⟨by simp[Ln,Fv],fun _=>rfl,by simp[Fv],by simp[Ln,Fv],fun _=>rfl,by simp[Fv],by unfold I64 Fv;dsimp only;omega,by unfold I64 Fv;dsimp only;omega⟩
theorem AhJ {g:GG} {c:GC} (hg:g.ok) (hc:c.ok) (hN:g.nodes.length≤2900) (hE:g.edges.length≤2900):Af (Ad tab) 31 [g.av,c.av] (fun w=>∃h:GG,w=.BH [h.av,.int .i64 (BL g c).2]∧BM h=BM (BL g c).1∧h.ok):=by
 have hck:=RQ hg
 by_cases h0:Az g=0
 ·have hs:=Ak7 hg hN hE (RI h0) (AcP h0) hc
  rw[h0]at hck
  refine Ac rfl rfl ?_
  (conv=>whnf);repeat' (first|(refine Aa hck ?_;rintro _ rfl;conv=>whnf)|(refine Aa hs ?_;rintro _ ⟨h,rfl,q1,q2⟩;conv=>whnf)|(refine kA ?_;conv=>whnf)|(refine Br.mk (fun hc=>?_) fun hc=>?_<;>first|exact hc.elim|conv=>whnf)|(refine kB ?_))
  have hG:BL g c=if(stepG g c).1≠0 then(Fv,(stepG g c).1)else((stepG g c).2,0):=by unfold BL;rw[if_neg (fun k=>k h0)]
  rw[hG]
  by_cases h1:(stepG g c).1=0
  ·rw[if_neg (fun k=>k h1),h1];exact⟨h,rfl,q1 h1⟩
  ·rw[if_pos h1];exact⟨h,rfl,by rw[q2 h1],by rw[q2 h1];exact Ll⟩
 ·have hG:BL g c=(Fv,Az g):=by unfold BL;rw[if_pos h0]
  rw[hG]
  generalize Az g=e at hck h0 ⊢
  refine Ac rfl rfl ?_
  (conv=>whnf);repeat' (first|(refine Aa hck ?_;rintro _ rfl;conv=>whnf)|(refine kA ?_;conv=>whnf)|(refine Br.mk (fun hc=>?_) fun hc=>?_<;>first|exact hc.elim|conv=>whnf)|(refine kB ?_))
  all_goals first|exact⟨Fv,rfl,rfl,Ll⟩|(exfalso;omega)
theorem AeR {N:List GN} {nx:Int} {i:Nat}:EC (N.map ER) nx i=EC N nx i:=by
 unfold EC
 simp only[List.getElem?_map]
 cases N[i]? with
 |none=>rfl
 |some n=>
  cases N[i-1]? with
  |none=>simp[ER]
  |some k=>simp[ER]
theorem Ahn {N:List GN}:Ho (N.map ER)=Ho N:=by unfold Ho;rw[List.map_map];rfl
theorem AeS {N:List GN} {E:List GE} {nx:Int} {i:Nat}:EI (N.map ER) (E.map GX) nx i=EI N E nx i:=by
 unfold EI
 simp only[List.getElem?_map,Ahn]
 cases E[i]? with
 |none=>rfl
 |some n=>
  cases E[i-1]? with
  |none=>simp[GX]
  |some k=>simp[GX]
theorem Nk {g h:GG} (e:BM g=BM h):Az g=Az h:=by
 have key:∀g:GG,Az (BM g)=Az g:=fun g=>by
  have e1:(BM g).nodes.length=g.nodes.length:=List.length_map ..
  have e2:(BM g).edges.length=g.edges.length:=List.length_map ..
  have n1:EC (BM g).nodes (BM g).Bl=EC g.nodes g.Bl:=funext fun i=>AeR
  have n2:EI (BM g).nodes (BM g).edges (BM g).Bg=EI g.nodes g.edges g.Bg:=funext fun i=>AeS
  have f:F8 (BM g)↔F8 g:=by unfold F8;rw[e1,e2]
  have x:Hu (BM g)↔Hu g:=Iff.rfl
  unfold Az
  rw[n1,n2,e1,e2]
  simp only[f,x]
 rw[← key g,e,key h]
theorem Rh {N:List GN}:Dv (N.map ER)=Dv N:=by unfold Dv;rw[List.flatMap_map];rfl
theorem Ue {E:List GE}:typesOf (E.map GX)=typesOf E:=by unfold typesOf;rw[List.map_map];rfl
theorem Aa6 {N:List GN} {x:List UInt8}:DX (N.map ER) x=DX N x:=by unfold DX;rw[List.map_map];rfl
theorem Aa7 {E:List GE} {x:List UInt8}:BU (E.map GX) x=BU E x:=by unfold BU;rw[List.map_map];rfl
theorem Aa8 {x:List UInt8} {dir:Int} {N:List GN} {E:List GE}:KN x dir (N.map ER) (E.map GX)=KN x dir N E:=by
 unfold KN Iu
 simp only[List.map_map]
 rfl
def KX (g:GG) (a:ST):Prop:=∃R T,a.nodes=g.nodes.length∧a.edges=g.edges.length∧a.labels=cnts (DX g.nodes) R∧a.types=cnts (BU g.edges) T∧a.outs.map Prod.snd=T.map (ND g 1)∧a.ins.map Prod.snd=T.map (ND g 2)∧
 Jp R∧(∀ x,x∈R↔x∈Dv g.nodes)∧Jp T∧(∀ x,x∈T↔x∈typesOf g.edges)
theorem KX.eqv {g:GG} {a b:ST} (h:KX g a) (k:KX g b):a.eqv b:=by
 obtain⟨R,T,a1,a2,a3,a4,a5,a6,i1,m1,i2,m2⟩:=h
 obtain⟨R',T',b1,b2,b3,b4,b5,b6,i1',m1',i2',m2'⟩:=k
 obtain rfl:=WM i1 i1' fun x=>by rw[m1,m1']
 obtain rfl:=WM i2 i2' fun x=>by rw[m2,m2']
 exact⟨a1.trans b1.symm,a2.trans b2.symm,a3.trans b3.symm,a4.trans b4.symm,a5.trans b5.symm,a6.trans b6.symm⟩
theorem KX.Ap3 {g h:GG} (eN:g.nodes.map ER=h.nodes.map ER) (eE:g.edges.map GX=h.edges.map GX) {a:ST} (k:KX g a):KX h a:=by
 obtain⟨R,T,a1,a2,a3,a4,a5,a6,i1,m1,i2,m2⟩:=k
 have l1:=congrArg List.length eN
 have l2:=congrArg List.length eE
 rw[List.length_map,List.length_map]at l1 l2
 have hs:∀dir x,ND g dir x=ND h dir x:=fun dir x=>by
  unfold ND
  rw[← Aa8 (N:=g.nodes),eN,eE,Aa8]
 refine⟨R,T,by rw[a1,l1],by rw[a2,l2],?_,?_,?_,?_,i1,fun x=>?_,i2,fun x=>?_⟩
 ·rw[a3];congr 1;funext x;rw[← Aa6 (N:=g.nodes),eN,Aa6]
 ·rw[a4];congr 1;funext x;rw[← Aa7 (E:=g.edges),eE,Aa7]
 ·rw[a5];congr 1;funext x;exact hs 1 x
 ·rw[a6];congr 1;funext x;exact hs 2 x
 ·rw[m1,←Rh (N:=g.nodes),eN,Rh]
 ·rw[m2,←Ue (E:=g.edges),eE,Ue]
theorem KX.sam {g h:GG} (e:BM g=BM h) {a:ST} (k:KX g a):KX h a:=k.Ap3 (LM e) (LP e)
theorem KX.fine {g:GG} {a:ST} (h:KX g a) (hN:g.nodes.length≤2000) (hE:g.edges.length≤4000) (hL:∀n∈g.nodes,n.labels.length≤2000):a.fine:=by
 obtain⟨R,T,a1,a2,a3,a4,a5,a6,i1,m1,i2,m2⟩:=h
 have lR:=FQ (FT i1) fun x hx=>(m1 x).1 hx
 have lR2:=Ri (R:=R) hL
 have lT:=FQ (FT i2) fun x hx=>(m2 x).1 hx
 simp only[typesOf,List.length_map]at lT
 have l5:=congrArg List.length a5
 have l6:=congrArg List.length a6
 rw[List.length_map,List.length_map]at l5 l6
 refine⟨?_,?_,by omega,by omega,Vd hN a5,Vd hN a6⟩
 ·rw[a3];simp only[cnts,List.length_map];omega
 ·rw[a4];simp only[cnts,List.length_map];omega
def Fq:ST:=⟨0,0,false,[],false,[],false,[],false,[]⟩
theorem H9:Fq.fine:=⟨by simp[Fq],by simp[Fq],by simp[Fq],by simp[Fq],by simp[Fq],by simp[Fq]⟩
theorem LD (a:ST):a.eqv a:=⟨rfl,rfl,rfl,rfl,rfl,rfl⟩
theorem Q5 {g:GG} (hg:g.ok) (hN:g.nodes.length≤2000) (hE:g.edges.length≤4000):∃a:ST,a.fine∧(Az g=0→KX g a)∧(Az g≠0→a=Fq)∧Af (Ad tab) 32 [g.av] (· =.BH [a.av,.int .i64 (Az g)]):=by
 by_cases hck:Az g=0
 ·have h8:=Ac3 hck
  have hL:∀n∈g.nodes,n.labels.length≤2000:=fun n hn=>by have:=h8 n hn;omega
  obtain⟨x1,⟨ln,tn,un,vn,R,T,O,I,rfl,i1,m1,i2,m2,s1,s2⟩,e1⟩:=(ofP hg hN hE hck hL).J4
  have hS:KX g ⟨g.nodes.length,g.edges.length,ln,cnts (DX g.nodes) R,tn,cnts (BU g.edges) T,un,O,vn,I⟩:=⟨R,T,rfl,rfl,rfl,rfl,s1.1,s2.1,i1,m1,i2,m2⟩
  refine⟨_,hS.fine hN hE hL,fun _=>hS,fun h=>absurd hck h,?_⟩
  rw[hck]
  exact e1
 ·exact⟨Fq,H9,fun h=>absurd h hck,fun _=>rfl,Atc hg hck⟩
theorem Aca {g:GG} (hg:g.ok) (hN:g.nodes.length≤2000) (hE:g.edges.length≤4000):∃a:ST,a.fine∧(Az g=0→KX g a)∧(Az g≠0→a=Fq)∧Af (Ad tab) 26 [g.av] (· =.BH [a.av,.int .i64 (Az g)]):=by
 by_cases hck:Az g=0
 ·have h8:=Ac3 hck
  have hL:∀n∈g.nodes,n.labels.length≤2000:=fun n hn=>by have:=h8 n hn;omega
  obtain⟨x1,⟨ln,tn,un,vn,R,T,O,I,rfl,i1,m1,i2,m2,s1,s2⟩,e1⟩:=(ofR hg hN hE hck hL).J4
  have hS:KX g ⟨g.nodes.length,g.edges.length,ln,cnts (DX g.nodes) R,tn,cnts (BU g.edges) T,un,O,vn,I⟩:=⟨R,T,rfl,rfl,rfl,rfl,s1,s2,i1,m1,i2,m2⟩
  refine⟨_,hS.fine hN hE hL,fun _=>hS,fun h=>absurd hck h,?_⟩
  rw[hck]
  exact e1
 ·exact⟨Fq,H9,fun h=>absurd h hck,fun _=>rfl,Atd hg hck⟩
theorem ApZ {s t u:ST} {g h:GG} {c:GC} {e1 e2 e3:Int} (hO:Af (Ad tab) 32 [g.av] (· =.BH [t.av,.int .i64 e1])) (hA:Af (Ad tab) 65 [g.av,c.av] (· =.BH [h.av,.int .i64 e2])) (hO2:Af (Ad tab) 32 [h.av] (· =.BH [u.av,.int .i64 e3]))
 (hS:Af (Ad tab) 64 [s.av,t.av] (· =.bool (decide (s.eqv t)))):
 Af (Ad tab) 27 [s.av,g.av,c.av] (· =if e1=0∧s.eqv t then(if e2=0 then .BH [u.av,.int .i64 e3]else .BH [Fq.av,.int .i64 e2])else .BH [Fq.av,.int .i64 19]):=by
 by_cases h1:e1=0
 case neg=>
  rw[if_neg (fun k=>h1 k.1)]
  refine Ac rfl rfl ?_
  (conv=>whnf);repeat' (first|(refine Aa hO ?_;rintro _ rfl;conv=>whnf)|(refine kA ?_;conv=>whnf)|(refine Br.mk (fun hc=>?_) fun hc=>?_<;>first|exact hc.elim|conv=>whnf)|(refine kB ?_))
  all_goals first|rfl|(exfalso;omega)
 by_cases h2:s.eqv t
 case neg=>
  rw[if_neg (fun k=>h2 k.2)]
  rw[decide_eq_false h2]at hS
  refine Ac rfl rfl ?_
  (conv=>whnf);repeat' (first|((first|refine Aa hO ?_|refine Aa hS ?_);rintro _ rfl;conv=>whnf)|(refine kA ?_;conv=>whnf)|(refine Br.mk (fun hc=>?_) fun hc=>?_<;>first|exact hc.elim|conv=>whnf)|(refine kB ?_))
  all_goals first|rfl|(exfalso;omega)
 rw[if_pos ⟨h1,h2⟩]
 rw[decide_eq_true h2]at hS
 by_cases h3:e2=0
 ·rw[if_pos h3]
  refine Ac rfl rfl ?_
  (conv=>whnf);repeat' (first|((first|refine Aa hO ?_|refine Aa hS ?_|refine Aa hA ?_|refine Aa hO2 ?_);rintro _ rfl;conv=>whnf)|(refine kA ?_;conv=>whnf)|(refine Br.mk (fun hc=>?_) fun hc=>?_<;>first|exact hc.elim|conv=>whnf)|(refine kB ?_))
  all_goals first|rfl|(exfalso;omega)
 ·rw[if_neg h3]
  refine Ac rfl rfl ?_
  (conv=>whnf);repeat' (first|((first|refine Aa hO ?_|refine Aa hS ?_|refine Aa hA ?_);rintro _ rfl;conv=>whnf)|(refine kA ?_;conv=>whnf)|(refine Br.mk (fun hc=>?_) fun hc=>?_<;>first|exact hc.elim|conv=>whnf)|(refine kB ?_))
  all_goals first|rfl|(exfalso;omega)
theorem Ate {s t u:ST} {g h:GG} {c:GC} {e1 e2 e3:Int} (hO:Af (Ad tab) 26 [g.av] (· =.BH [t.av,.int .i64 e1])) (hA:Af (Ad tab) 31 [g.av,c.av] (· =.BH [h.av,.int .i64 e2])) (hO2:Af (Ad tab) 26 [h.av] (· =.BH [u.av,.int .i64 e3]))
 (hS:Af (Ad tab) 29 [s.av,t.av] (· =.bool (decide (s.eqv t)))):
 Af (Ad tab) 28 [s.av,g.av,c.av] (· =if e1=0∧s.eqv t then(if e2=0 then .BH [u.av,.int .i64 e3]else .BH [Fq.av,.int .i64 e2])else .BH [Fq.av,.int .i64 19]):=by
 by_cases h1:e1=0
 case neg=>
  rw[if_neg (fun k=>h1 k.1)]
  refine Ac rfl rfl ?_
  (conv=>whnf);repeat' (first|(refine Aa hO ?_;rintro _ rfl;conv=>whnf)|(refine kA ?_;conv=>whnf)|(refine Br.mk (fun hc=>?_) fun hc=>?_<;>first|exact hc.elim|conv=>whnf)|(refine kB ?_))
  all_goals first|rfl|(exfalso;omega)
 by_cases h2:s.eqv t
 case neg=>
  rw[if_neg (fun k=>h2 k.2)]
  rw[decide_eq_false h2]at hS
  refine Ac rfl rfl ?_
  (conv=>whnf);repeat' (first|((first|refine Aa hO ?_|refine Aa hS ?_);rintro _ rfl;conv=>whnf)|(refine kA ?_;conv=>whnf)|(refine Br.mk (fun hc=>?_) fun hc=>?_<;>first|exact hc.elim|conv=>whnf)|(refine kB ?_))
  all_goals first|rfl|(exfalso;omega)
 rw[if_pos ⟨h1,h2⟩]
 rw[decide_eq_true h2]at hS
 by_cases h3:e2=0
 ·rw[if_pos h3]
  refine Ac rfl rfl ?_
  (conv=>whnf);repeat' (first|((first|refine Aa hO ?_|refine Aa hS ?_|refine Aa hA ?_|refine Aa hO2 ?_);rintro _ rfl;conv=>whnf)|(refine kA ?_;conv=>whnf)|(refine Br.mk (fun hc=>?_) fun hc=>?_<;>first|exact hc.elim|conv=>whnf)|(refine kB ?_))
  all_goals first|rfl|(exfalso;omega)
 ·rw[if_neg h3]
  refine Ac rfl rfl ?_
  (conv=>whnf);repeat' (first|((first|refine Aa hO ?_|refine Aa hS ?_|refine Aa hA ?_);rintro _ rfl;conv=>whnf)|(refine kA ?_;conv=>whnf)|(refine Br.mk (fun hc=>?_) fun hc=>?_<;>first|exact hc.elim|conv=>whnf)|(refine kB ?_))
  all_goals first|rfl|(exfalso;omega)
theorem Yc {g:GG} {c:GC}:(BL g c).1.nodes.length≤g.nodes.length+1∧(BL g c).1.edges.length≤g.edges.length+1:=by
 unfold BL
 split
 ·exact⟨Nat.zero_le _,Nat.zero_le _⟩
 split
 ·exact⟨Nat.zero_le _,Nat.zero_le _⟩
 ·exact Vf g c
theorem WA {g:GG} {c:GC} (hg:g.ok) (hc:c.ok):(BL g c).1.ok:=by
 unfold BL
 split
 ·exact Ll
 rename_i h0
 split
 ·exact Ll
 ·exact AdX hg (RI (Classical.not_not.1 h0)) hc
theorem AaJ {s1 s2:ST} {g:GG} {c:GC} (hs:s1.eqv s2) (f1:s1.fine) (f2:s2.fine) (hg:g.ok) (hc:c.ok) (hN:g.nodes.length≤60) (hE:g.edges.length≤100):
 ∃(a b:ST) (e:Int),a.fine∧b.fine∧a.eqv b∧Af (Ad tab) 27 [s1.av,g.av,c.av] (· =.BH [a.av,.int .i64 e])∧Af (Ad tab) 28 [s2.av,g.av,c.av] (· =.BH [b.av,.int .i64 e]):=by
 obtain⟨t,ft,t1,t0,pt⟩:=Q5 hg (by omega) (by omega)
 obtain⟨t',ft',t1',t0',pt'⟩:=Aca hg (by omega) (by omega)
 have ht:t.eqv t':=by
  by_cases h:Az g=0
  ·exact(t1 h).eqv (t1' h)
  ·rw[t0 h,t0' h];exact LD _
 have hl:=Yc (g:=g) (c:=c)
 have hok:=WA hg hc
 obtain⟨_,⟨h',rfl,hn',ho'⟩,pA'⟩:=(AhJ hg hc (by omega) (by omega)).J4
 have pA:=Afo hg hc
 generalize (BL g c).1=h at*
 generalize (BL g c).2=e2 at*
 have hl':=Me hn'
 obtain⟨u,fu,u1,u0,pu⟩:=Q5 hok (by omega) (by omega)
 obtain⟨u',fu',u1',u0',pu'⟩:=Aca ho' (by omega) (by omega)
 have hch:=Nk hn'
 have hu:u.eqv u':=by
  by_cases h0:Az h=0
  ·exact(u1 h0).eqv ((u1' (hch.trans h0)).sam hn')
  ·rw[u0 h0,u0' (fun k=>h0 (hch.symm.trans k))];exact LD _
 rw[hch]at pu'
 have q1:=ApZ (s:=s1) pt pA pu (Ak6 f1 ft)
 have q2:=Ate (s:=s2) pt' pA' pu' (Ac2 f2 ft')
 have hiff:s1.eqv t↔s2.eqv t':=⟨fun k=>hs.symm.trans (k.trans ht),fun k=>hs.trans (k.trans ht.symm)⟩
 by_cases c1:Az g=0∧s1.eqv t
 ·rw[if_pos c1]at q1
  rw[if_pos ⟨c1.1,hiff.1 c1.2⟩]at q2
  by_cases c2:e2=0
  ·rw[if_pos c2]at q1 q2
   exact⟨u,u',_,fu,fu',hu,q1,q2⟩
  ·rw[if_neg c2]at q1 q2
   exact⟨Fq,Fq,_,H9,H9,LD _,q1,q2⟩
 ·rw[if_neg c1]at q1
  rw[if_neg (fun k=>c1 ⟨k.1,hiff.2 k.2⟩)]at q2
  exact⟨Fq,Fq,_,H9,H9,LD _,q1,q2⟩
set_option maxRecDepth 100000 in
theorem Nb:EO (run (Ad tab) 60) 25 []=some (.bool true):=by kernel_rfl
theorem AiB:Tryz.prog.cellsOf 51=10:=by kernel_rfl
theorem Rx {l:List AV} {n:Nat} (h:l.length=n+1):∃a r,l=a::r∧r.length=n:=by
 cases l with
 |nil=>simp at h
 |cons a r=>exact⟨a,r,rfl,by simpa using h⟩
theorem TW {d:Nat} {a:AV} (h:like Tryz.prog d 51 a):∃c:GC,a=c.av∧c.ok:=by
 obtain⟨cs,rfl,h0⟩:=EU Tryz.underlying51 h
 obtain⟨d',rfl,g1,g2⟩:=Ep Tryz.underlying51 h0
 rw[AiB]at g1
 obtain⟨a1,r1,rfl,q1⟩:=Rx g1
 obtain⟨a2,r2,rfl,q2⟩:=Rx q1
 obtain⟨a3,r3,rfl,q3⟩:=Rx q2
 obtain⟨a4,r4,rfl,q4⟩:=Rx q3
 obtain⟨b1,b2,b3,b4,b5,b6,rfl⟩:=Anu q4
 clear g1 q1 q2 q3 q4
 simp only[List.forall_mem_cons]at g2
 obtain⟨f1,f2,f3,f4,f5,f6,_⟩:=g2
 simp only[WI,Oz,Zn,List.drop_zero,List.drop_succ_cons,List.take_succ_cons,List.take_zero]at f1 f2 f3 f4 f5 f6
 obtain⟨k,e1,h1⟩:=EF f1
 obtain⟨i,e2,h2⟩:=EF f2
 obtain⟨fr,e3,h3⟩:=EF f3
 obtain⟨to,e4,h4⟩:=EF f4
 obtain⟨s,e5,h5⟩:=Q8 f5
 obtain⟨v,e6,h6⟩:=OB f6
 cases e1;cases e2;cases e3;cases e4;cases e5;cases e6
 exact⟨⟨k,i,fr,to,s,v⟩,rfl,h1,h2,h3,h4,h5,h6⟩
theorem KW:Af (Ad tab) 25 [] (· =.bool (decide True)):=⟨.bool true,⟨60,Nb⟩,rfl⟩
theorem AmA {g:GG} (hg:g.ok):Af (Ad tab) 23 [g.av] (fun v=>∃b,v=.bool b∧(b=true→g.nodes.length≤60∧g.edges.length≤100)):=by
 have h1:=hg.1
 have h2:=hg.2.2.2.1
 unfold Ln at h1 h2
 refine Ac rfl rfl ?_
 (conv=>whnf);repeat' (first  |(refine kA ?_;conv=>whnf)|(refine Br.mk (fun hc=>?_) fun hc=>?_<;>first|exact hc.elim|conv=>whnf)|(refine kB ?_))
 all_goals first
  |exact⟨_,rfl,fun _=>⟨by omega,by omega⟩⟩
  |exact⟨_,rfl,fun h=>Bool.noConfusion h⟩
  |exact⟨_,rfl,fun h=>⟨by omega,by have:=of_decide_eq_true h;omega⟩⟩
theorem AmB {s:ST} (hs:s.ok):Af (Ad tab) 24 [s.av] (fun v=>∃b,v=.bool b∧(b=true→s.fine)):=by
 obtain⟨h1,h2,h3,h4,⟨h5,h5b⟩,h6,h6b⟩:=hs
 unfold Ln at h3 h4 h5 h6
 refine Ac rfl rfl ?_
 (conv=>whnf);repeat' (first  |(refine kA ?_;conv=>whnf)|(refine Br.mk (fun hc=>?_) fun hc=>?_<;>first|exact hc.elim|conv=>whnf)|(refine kB ?_))
 all_goals first|exact⟨_,rfl,fun h=>Bool.noConfusion h⟩|skip
 refine Ae (fun m env st=>∃i c:Nat,m=s.outs.length-i∧(∀ p∈s.outs.take i,p.2.length<2^62)∧env=[(1,.ref 0 0 0 0),(3,.int .i64 i)]∧st=⟨[.arr 0 6 true true [s.av]],c⟩) ?_ _ _ _ ⟨0,_,rfl,by simp,rfl,rfl⟩
 rintro _ _ _ ⟨i,c,rfl,hx,rfl,rfl⟩
 refine⟨rfl,?_⟩
 by_cases hlt:i<s.outs.length
 ·have hk:(s.outs[i]).2.length<2^63:=h5b _ (List.getElem_mem hlt)
  (conv=>whnf);repeat' (first  |(refine kA ?_;conv=>whnf)|(refine Br.mk (fun hc=>?_) fun hc=>?_<;>first|exact hc.elim|conv=>whnf)|(refine kB ?_))
  all_goals first
   |exact⟨_,rfl,fun h=>Bool.noConfusion h⟩
   |exact again.mk ⟨_,by omega,i+1,_,rfl,Bz hlt hx (by omega),rfl,rfl⟩
   |(exfalso;omega)
 ·rw[List.take_of_length_le (by omega)]at hx
  (conv=>whnf);repeat' (first  |(refine kA ?_;conv=>whnf)|(refine Br.mk (fun hc=>?_) fun hc=>?_<;>first|exact hc.elim|conv=>whnf)|(refine kB ?_))
  refine Ae (fun m env st=>∃i c:Nat,m=s.ins.length-i∧(∀ p∈s.ins.take i,p.2.length<2^62)∧env=[(1,.ref 0 0 0 0),(4,.int .i64 i)]∧st=⟨[.arr 0 6 true true [s.av]],c⟩) ?_ _ _ _ ⟨0,_,rfl,by simp,rfl,rfl⟩
  rintro _ _ _ ⟨i,c,rfl,hy,rfl,rfl⟩
  refine⟨rfl,?_⟩
  by_cases hlt:i<s.ins.length
  ·have hk:(s.ins[i]).2.length<2^63:=h6b _ (List.getElem_mem hlt)
   (conv=>whnf);repeat' (first  |(refine kA ?_;conv=>whnf)|(refine Br.mk (fun hc=>?_) fun hc=>?_<;>first|exact hc.elim|conv=>whnf)|(refine kB ?_))
   all_goals first
     |exact⟨_,rfl,fun h=>Bool.noConfusion h⟩
     |exact again.mk ⟨_,by omega,i+1,_,rfl,Bz hlt hy (by omega),rfl,rfl⟩
     |(exfalso;omega)
  ·rw[List.take_of_length_le (by omega)]at hy
   (conv=>whnf);repeat' (first  |(refine kA ?_;conv=>whnf)|(refine Br.mk (fun hc=>?_) fun hc=>?_<;>first|exact hc.elim|conv=>whnf)|(refine kB ?_))
   all_goals first
     |exact⟨_,rfl,fun _=>⟨by omega,by omega,by omega,by omega,hx,hy⟩⟩
     |(exfalso;omega)
set_option maxRecDepth 10000 in
set_option maxHeartbeats 2000000 in
theorem Ab8:∀xs,likes Tryz.prog [46,25,51] xs→Au (Ad tab) 6 xs ⟨[],0⟩ fun out _=>out=.ok (.bool true):=by
 intro xs h
 match xs,h with
 |[x,y,z],h=>
  obtain⟨h1,h2,⟨d3,h3⟩,_⟩:=h
  obtain⟨s,rfl,hs⟩:=Ab9 h1
  obtain⟨g,rfl,hg⟩:=PI h2
  obtain⟨c,rfl,hc⟩:=TW h3
  obtain⟨_,⟨b1,rfl,q1⟩,p1⟩:=(AmA hg).J4
  obtain⟨_,⟨b2,rfl,q2⟩,p2⟩:=(AmB hs).J4
  refine Ah rfl rfl ?_
  cases b1
  case false=>
   (conv=>whnf);repeat' (first|(refine Aa p1 ?_;rintro _ rfl;conv=>whnf)|(refine Bo KW (fun _=>?_) (fun h=>absurd trivial h);conv=>whnf)|(refine kA ?_;conv=>whnf)|(refine Br.mk (fun hc=>?_) fun hc=>?_<;>first|exact hc.elim|conv=>whnf)|(refine kB ?_))
   all_goals first|rfl
  cases b2
  case false=>
   (conv=>whnf);repeat' (first|((first|refine Aa p1 ?_|refine Aa p2 ?_);rintro _ rfl;conv=>whnf)|(refine Bo KW (fun _=>?_) (fun h=>absurd trivial h);conv=>whnf)|(refine kA ?_;conv=>whnf)|(refine Br.mk (fun hc=>?_) fun hc=>?_<;>first|exact hc.elim|conv=>whnf)|(refine kB ?_))
   all_goals first|rfl
  obtain⟨hN,hE⟩:=q1 rfl
  have fs:=q2 rfl
  obtain⟨t,ft,_,_,pt⟩:=Aca hg (by omega) (by omega)
  obtain⟨a,b,e,fa,fb,ab,u1,u2⟩:=AaJ (LD t) ft ft hg hc hN hE
  obtain⟨a',b',e',Tv,Tz,ab',u3,u4⟩:=AaJ (LD s) fs fs hg hc hN hE
  have s1:=Ac2 fa fb
  have s2:=Ac2 Tv Tz
  rw[decide_eq_true ab]at s1
  rw[decide_eq_true ab']at s2
  generalize Az g=e0 at pt
  clear fa fb Tv Tz ab ab' ft fs q1 q2
  (conv=>whnf);repeat' (first|((first|refine Aa p1 ?_|refine Aa p2 ?_|refine Aa pt ?_|refine Aa u1 ?_|refine Aa u2 ?_|refine Aa u3 ?_|refine Aa u4 ?_|refine Aa s1 ?_|refine Aa s2 ?_);rintro _ rfl;conv=>whnf)|(refine Bo KW (fun _=>?_) (fun h=>absurd trivial h);conv=>whnf)|(refine kA ?_;conv=>whnf)|(refine Br.mk (fun hc=>?_) fun hc=>?_<;>first|exact hc.elim|conv=>whnf)|(refine kB ?_))
  all_goals first|rfl|(exfalso;omega)|exact absurd rfl (by assumption)
end AI
end Go.Proofs.YtceiccjppfapjaaGreatDoor
