/- The reference's Apply and ApplyAll are the program's, but for flags. A change that succeeds. Changes as data; the ids that changes name: plain. The worked example in the laws about indexes: reckoned by the kernel. A check does not look at flags: plain. The law IndexUpdates, about the evaluator. -/
import Derived.Test.YtceiccjppfapjaaGreatDoorXRcK
import Derived.Test.YtceiccjppfapjaaGreatDoorXApY
import Derived.Test.YtceiccjppfapjaaGreatDoorXCk8
import Derived.Test.YtceiccjppfapjaaGreatDoorXMar
import Derived.Test.YtceiccjppfapjaaGreatDoorXMal
import Derived.Test.YtceiccjppfapjaaGreatDoorXGrCode
import Derived.Test.YtceiccjppfapjaaGreatDoorXVa
import Derived.Test.YtceiccjppfapjaaGreatDoorXMaq
import Derived.Test.YtceiccjppfapjaaGreatDoorXMaj
set_option linter.unusedVariables false
set_option maxRecDepth 4000
namespace Go.Proofs.YtceiccjppfapjaaGreatDoor
namespace AI
theorem QW.UR {g:GG} (h:QW g) {n:GN} (hm:∃m∈g.nodes,m.id=n.id):QW {g with nodes:=Ba CB GN.id n g.nodes}:=
 ⟨fun x hx=>by
  rcases BU Ar hx with rfl|hx
  ·obtain⟨m,hm,e⟩:=hm;have:=h.n m hm;rw[e]at this;exact this
  ·exact h.n x hx,h.e⟩
theorem QW.Acs {g:GG} (h:QW g) {n:GE} (hm:∃m∈g.edges,m.id=n.id):QW {g with edges:=Ba CB GE.id n g.edges}:=
 ⟨h.n,fun x hx=>by
  rcases BU Ar hx with rfl|hx
  ·obtain⟨m,hm,e⟩:=hm;have:=h.e m hm;rw[e]at this;exact this
  ·exact h.e x hx⟩
theorem max_lt {a b c:Int} (h:a<b):a<(if c>b then c else b):=by split<;>omega
theorem Ac7 {a b c:Int} (h:a<c):a<(if c>b then c else b):=by split<;>omega
theorem QW.node {g:GG} (h:QW g) {c:GC}:QW (AY g c).2:=by
 unfold AY
 split
 ·split
  ·exact h
  split
  ·refine⟨fun x hx=>?_,h.e⟩
   rcases BU Ar hx with rfl|hx
   ·exact Ac7 (by show c.id<c.id+1;omega)
   ·exact max_lt (h.n x hx)
  ·exact h
 split
 ·exact h
 rename_i n hf
 obtain⟨hn,hz⟩:=DW hf
 split
 ·split
  ·exact h
  ·exact⟨fun x hx=>h.n x (Ei hx),h.e⟩
 split
 ·split
  ·exact h
  split
  ·exact h.UR ⟨n,hn,rfl⟩
  ·exact h
 split
 ·split
  ·exact h.UR ⟨n,hn,rfl⟩
  ·exact h
 split
 ·exact h.UR ⟨n,hn,rfl⟩
 split
 ·exact h.UR ⟨n,hn,rfl⟩
 ·exact h
theorem QW.edge {g:GG} (h:QW g) {c:GC}:QW (Bz g c).2:=by
 unfold Bz
 split
 ·split
  ·exact h
  split
  ·split
   ·refine⟨h.n,fun x hx=>?_⟩
    rcases BU Ar hx with rfl|hx
    ·exact Ac7 (by show c.id<c.id+1;omega)
    ·exact max_lt (h.e x hx)
   ·exact h
  ·exact h
 split
 ·exact h
 rename_i n hf
 obtain⟨hn,hz⟩:=DW hf
 split
 ·exact⟨h.n,fun x hx=>h.e x (Ei hx)⟩
 split
 ·exact h.Acs ⟨n,hn,rfl⟩
 split
 ·exact h.Acs ⟨n,hn,rfl⟩
 ·exact h
theorem QW.step {g:GG} (h:QW g) {c:GC}:QW (stepG g c).2:=by
 unfold stepG
 split
 ·exact h
 split
 ·exact h.node
 ·exact h.edge
theorem Aja {g:GG} (h:BH g=0):QW g:=by
 obtain⟨hf,hn,hN,hE⟩:=Rx h
 refine⟨fun n hm=>?_,fun n hm=>?_⟩
 ·obtain⟨i,hi,rfl⟩:=List.getElem_of_mem hm
  exact(Qi hi (hN i hi)).2.2.1
 ·obtain⟨i,hi,rfl⟩:=List.getElem_of_mem hm
  exact(U0 hi (hE i hi)).2.2.1
theorem Ad3 {g h:GG} (e:F8 g=F8 h):g.nodes.length=h.nodes.length∧g.edges.length=h.edges.length:=by
 have h1:=congrArg (fun x=>x.nodes.length) e
 have h2:=congrArg (fun x=>x.edges.length) e
 simpa[F8]using And.intro h1 h2
theorem ZR {g h:GG} (e:F8 g=F8 h):g.nodes.map PO=h.nodes.map PO:=congrArg GG.nodes e
theorem WV:Fq.ok:=⟨by simp[Ln,Fq],fun _=>rfl,by simp[Fq],by simp[Ln,Fq],fun _=>rfl,by simp[Fq],by unfold I64 Fq;dsimp only;omega,by unfold I64 Fq;dsimp only;omega⟩
theorem Agg {g:GG} {c:GC} (hg:g.ok) (hc:c.ok) (hN:g.nodes.length≤2900) (hE:g.edges.length≤2900):Ae (Ad tab) 31 [g.av,c.av] (fun w=>∃h:GG,w=.BL [h.av,.int .i64 (DT g c).2]∧F8 h=F8 (DT g c).1∧h.ok):=by
 have hck:=Abr hg
 by_cases h0:BH g=0
 ·have hs:=AiV hg hN hE (Uh h0) (Aja h0) hc
  rw[h0]at hck
  refine Ac rfl rfl ?_
  (conv=>whnf);repeat' (first|(refine Aa hck ?_;rintro _ rfl;conv=>whnf)|(refine Aa hs ?_;rintro _ ⟨h,rfl,q1,q2⟩;conv=>whnf)|(refine kA ?_;conv=>whnf)|(refine Br.mk (fun hc=>?_) fun hc=>?_<;>first|exact hc.elim|conv=>whnf)|(refine kB ?_))
  have hG:DT g c=if(stepG g c).1≠0 then(Fq,(stepG g c).1)else((stepG g c).2,0):=by unfold DT;rw[if_neg (fun k=>k h0)]
  rw[hG]
  by_cases h1:(stepG g c).1=0
  ·rw[if_neg (fun k=>k h1),h1];exact⟨h,rfl,q1 h1⟩
  ·rw[if_pos h1];exact⟨h,rfl,by rw[q2 h1],by rw[q2 h1];exact WV⟩
 ·have hG:DT g c=(Fq,BH g):=by unfold DT;rw[if_pos h0]
  rw[hG]
  generalize BH g=e at hck h0 ⊢
  refine Ac rfl rfl ?_
  (conv=>whnf);repeat' (first|(refine Aa hck ?_;rintro _ rfl;conv=>whnf)|(refine kA ?_;conv=>whnf)|(refine Br.mk (fun hc=>?_) fun hc=>?_<;>first|exact hc.elim|conv=>whnf)|(refine kB ?_))
  all_goals first|exact⟨Fq,rfl,rfl,WV⟩|(exfalso;omega)
theorem AaU {g k:GG} {c:GC} (hg:g.ok) (hc:c.ok) (h0:DT g c=(k,0)):k.ok∧k.nodes.length≤g.nodes.length+1:=by
 unfold DT at h0
 split at h0
 ·rename_i h
  exact absurd (Prod.mk.inj h0).2 h
 ·rename_i h
  split at h0
  ·rename_i h2
   exact absurd (Prod.mk.inj h0).2 h2
  ·have:=(Prod.mk.inj h0).1
   subst this
   exact⟨AdC hg (Uh (Classical.not_not.1 h)) hc,(AaR g c).1⟩
theorem AcH:Tryz.prog.cellsOf 51=10:=by kernel_rfl
theorem Oo {l:List AV} {n:Nat} (h:l.length=n+1):∃a r,l=a::r∧r.length=n:=by
 cases l with
 |nil=>simp at h
 |cons a r=>exact⟨a,r,rfl,by simpa using h⟩
theorem VT {d:Nat} {a:AV} (h:like Tryz.prog d 51 a):∃c:GC,a=c.av∧c.ok:=by
 obtain⟨cs,rfl,h0⟩:=DK Tryz.underlying51 h
 obtain⟨d',rfl,g1,g2⟩:=DJ Tryz.underlying51 h0
 rw[AcH]at g1
 obtain⟨a1,r1,rfl,q1⟩:=Oo g1
 obtain⟨a2,r2,rfl,q2⟩:=Oo q1
 obtain⟨a3,r3,rfl,q3⟩:=Oo q2
 obtain⟨a4,r4,rfl,q4⟩:=Oo q3
 obtain⟨b1,b2,b3,b4,b5,b6,rfl⟩:=Aij q4
 clear g1 q1 q2 q3 q4
 simp only[List.forall_mem_cons]at g2
 obtain⟨f1,f2,f3,f4,f5,f6,_⟩:=g2
 simp only[QH,Je,NI,List.drop_zero,List.drop_succ_cons,List.take_succ_cons,List.take_zero]at f1 f2 f3 f4 f5 f6
 obtain⟨k,e1,h1⟩:=DN f1
 obtain⟨i,e2,h2⟩:=DN f2
 obtain⟨fr,e3,h3⟩:=DN f3
 obtain⟨to,e4,h4⟩:=DN f4
 obtain⟨s,e5,h5⟩:=JI f5
 obtain⟨v,e6,h6⟩:=KI f6
 cases e1;cases e2;cases e3;cases e4;cases e5;cases e6
 exact⟨⟨k,i,fr,to,s,v⟩,rfl,h1,h2,h3,h4,h5,h6⟩
set_option maxRecDepth 100000 in
theorem X7:Dv (run (Ad tab) 80) 36 []=some (.bool true):=by kernel_rfl
theorem XA:Ae (Ad tab) 36 [] (· =.bool (decide True)):=⟨.bool true,⟨80,X7⟩,rfl⟩
theorem ZT {N:List GN} {nx:Int} {i:Nat}:DU (N.map PO) nx i=DU N nx i:=by
 unfold DU
 simp only[List.getElem?_map]
 cases N[i]? with
 |none=>rfl
 |some n=>
  cases N[i-1]? with
  |none=>simp[PO]
  |some k=>simp[PO]
theorem AbM {N:List GN}:FK (N.map PO)=FK N:=by unfold FK;rw[List.map_map];rfl
theorem ZU {N:List GN} {E:List GE} {nx:Int} {i:Nat}:D8 (N.map PO) (E.map XB) nx i=D8 N E nx i:=by
 unfold D8
 simp only[List.getElem?_map,AbM]
 cases E[i]? with
 |none=>rfl
 |some n=>
  cases E[i-1]? with
  |none=>simp[XB]
  |some k=>simp[XB]
theorem Xx {g h:GG} (e:F8 g=F8 h):BH g=BH h:=by
 have key:∀g:GG,BH (F8 g)=BH g:=fun g=>by
  have e1:(F8 g).nodes.length=g.nodes.length:=List.length_map ..
  have e2:(F8 g).edges.length=g.edges.length:=List.length_map ..
  have n1:DU (F8 g).nodes (F8 g).Bv=DU g.nodes g.Bv:=funext fun i=>ZT
  have n2:D8 (F8 g).nodes (F8 g).edges (F8 g).BD=D8 g.nodes g.edges g.BD:=funext fun i=>ZU
  have f:EM (F8 g)↔EM g:=by unfold EM;rw[e1,e2]
  have x:F7 (F8 g)↔F7 g:=Iff.rfl
  unfold BH
  rw[n1,n2,e1,e2]
  simp only[f,x]
 rw[← key g,e,key h]
theorem Ae.uniq {AP:Nat→Option G9} {f:Nat} {args:List AV} {a b:AV} (h1:Ae AP f args (· =a)) (h2:Ae AP f args (· =b)):a=b:=by
 obtain⟨_,⟨n1,e1⟩,rfl⟩:=h1
 obtain⟨_,⟨n2,e2⟩,rfl⟩:=h2
 have k1:=LW (Bl (AP:=AP) (Nat.le_max_left n1 n2)) e1
 have k2:=LW (Bl (AP:=AP) (Nat.le_max_right n1 n2)) e2
 rw[k1]at k2
 exact Option.some.inj k2
theorem VP {m:Nat} (hm:1≤m) (x y:GX):I8 m x.1 y.1=QK x y:=by
 have h:=Ae.uniq (Ux (m:=m) x.2.1.2.2.1 y.2.1.2.2.1 (ML hm (VQ x)) (ML hm (VQ y))) (Eu (x:=x) (y:=y))
 simpa using h
def ZQ (m:Nat) (L:List GT) (W:List GX):Prop:=L.length=W.length∧∀i (h:i<L.length) (h':i<W.length),I8 m L[i] W[i].1=0
noncomputable instance (m:Nat) (L:List GT) (W:List GX):Decidable (ZQ m L W):=Classical.propDecidable _
def Agd (m:Nat) (L:List GT):Prop:=∀x∈L,x.v.ok∧dep m x.v
theorem Akf {m:Nat} (hm:1≤m) {x:GT} {y:GX} (hx:x.v.ok∧dep m x.v):Ae (Ad tab) 88 [x.av,y.av] (· =.bool (decide (I8 m x y.1=0))):=by
 have h:=Ux (m:=m) hx.1 y.2.1.2.2.1 hx.2 (ML hm (VQ y))
 have h:Ae (Ad tab) 86 [x.av,y.av] (· =.int .i64 (I8 m x y.1)):=h
 generalize I8 m x y.1=z at h ⊢
 refine Ac rfl rfl ?_
 (conv=>whnf);repeat' (first|(refine Aa h ?_;rintro _ rfl;conv=>whnf)|(refine kA ?_;conv=>whnf)|(refine Br.mk (fun hc=>?_) fun hc=>?_<;>first|exact hc.elim|conv=>whnf)|(refine kB ?_))
 all_goals first|exact Bf (by omega)|exact Aw (by omega)|rfl
theorem Akg {m:Nat} (hm:1≤m) {L:List GT} {W:List GX} {b1 b2:Bool} (hl:L.length≤300) (hw:W.length≤300000) (hd:Agd m L):Ae (Ad tab) 87 [.sl b1 (vs GT.av L),.sl b2 (vs GX.av W),.fn 88 []] (· =.bool (decide (ZQ m L W))):=by
 by_cases hlen:L.length=W.length
 case neg=>
  refine Ac rfl rfl ?_
  (conv=>whnf);repeat' (first  |(refine kA ?_;conv=>whnf)|(refine Br.mk (fun hc=>?_) fun hc=>?_<;>first|exact hc.elim|conv=>whnf)|(refine kB ?_))
  all_goals first|exact Aw (fun h=>hlen h.1)|(exfalso;omega)
 refine Ac rfl rfl ?_
 (conv=>whnf);repeat' (first  |(refine kA ?_;conv=>whnf)|(refine Br.mk (fun hc=>?_) fun hc=>?_<;>first|exact hc.elim|conv=>whnf)|(refine kB ?_))
 all_goals first|(exfalso;omega)|skip
 refine Ag (fun z env s=>∃(i c:Nat),z=L.length-i∧(∀ k (h:k<L.length) (h':k<W.length),k<i→I8 m L[k] W[k].1=0)∧env=[(1,.sl b2 (vs GX.av W)),(2,.fn 88 []),(15,.sl b1 (vs GT.av L)),(16,.int .i64 L.length),(17,.int .i64 i)]∧s=⟨[],c⟩) ?_ _ _ _ ⟨0,_,rfl,fun _ _ _ h=>absurd h (by omega),by first|rfl|(rw [← lV (f:=GT.av) L];rfl),rfl⟩
 rintro _ _ _ ⟨i,c,rfl,hx,rfl,rfl⟩
 refine⟨rfl,?_⟩
 by_cases hlt:i<L.length
 ·have hi2:i<W.length:=by omega
  have h:=Akf hm (x:=L[i]) (y:=W[i]) (hd _ (List.getElem_mem hlt))
  by_cases he:I8 m L[i] W[i].1=0
  ·rw[decide_eq_true he]at h
   (conv=>whnf);repeat' (first|(refine Aa h ?_;rintro _ rfl;conv=>whnf)|(refine kA ?_;conv=>whnf)|(refine Br.mk (fun hc=>?_) fun hc=>?_<;>first|exact hc.elim|conv=>whnf)|(refine kB ?_))
   all_goals first
        |exact again.mk ⟨_,by omega,i+1,_,rfl,fun k h1 h2 h3=>by
          by_cases e:k=i
          ·subst e;exact he
          ·exact hx k h1 h2 (by omega),rfl,rfl⟩
        |(exfalso;omega)
  ·rw[decide_eq_false he]at h
   (conv=>whnf);repeat' (first|(refine Aa h ?_;rintro _ rfl;conv=>whnf)|(refine kA ?_;conv=>whnf)|(refine Br.mk (fun hc=>?_) fun hc=>?_<;>first|exact hc.elim|conv=>whnf)|(refine kB ?_))
   all_goals first|exact Aw (fun h=>he (h.2 i hlt hi2))|(exfalso;omega)
 ·(conv=>whnf);repeat' (first  |(refine kA ?_;conv=>whnf)|(refine Br.mk (fun hc=>?_) fun hc=>?_<;>first|exact hc.elim|conv=>whnf)|(refine kB ?_))
  all_goals first|exact Bf ⟨hlen,fun k h1 h2=>hx k h1 h2 (by omega)⟩|(exfalso;omega)
theorem Agf {m:Nat} (hm:1≤m) {L:List GT} {W:List GX} {b1 b2:Bool} (hl:L.length≤300) (hw:W.length≤300000) (hd:Agd m L):Ae (Ad tab) 39 [.sl b1 (vs GT.av L),.sl b2 (vs GX.av W)] (· =.bool (decide (ZQ m L W))):=by
 by_cases hlen:L.length=W.length
 case neg=>
  refine Ac rfl rfl ?_
  (conv=>whnf);repeat' (first  |(refine kA ?_;conv=>whnf)|(refine Br.mk (fun hc=>?_) fun hc=>?_<;>first|exact hc.elim|conv=>whnf)|(refine kB ?_))
  all_goals first|exact Aw (fun h=>hlen h.1)|(exfalso;omega)
 refine Ac rfl rfl ?_
 (conv=>whnf);repeat' (first  |(refine kA ?_;conv=>whnf)|(refine Br.mk (fun hc=>?_) fun hc=>?_<;>first|exact hc.elim|conv=>whnf)|(refine kB ?_))
 all_goals first|(exfalso;omega)|skip
 refine Ag (fun z env s=>∃i:Nat,z=L.length-i∧(∀ k (h:k<L.length) (h':k<W.length),k<i→I8 m L[k] W[k].1=0)∧env=[(0,.sl b1 (vs GT.av L)),(1,.sl b2 (vs GX.av W)),(5,.int .i64 i)]∧s=⟨[],0⟩) ?_ _ _ _ ⟨0,rfl,fun _ _ _ h=>absurd h (by omega),rfl,rfl⟩
 rintro _ _ _ ⟨i,rfl,hx,rfl,rfl⟩
 refine⟨rfl,?_⟩
 by_cases hlt:i<L.length
 ·have hi2:i<W.length:=by omega
  have h:=YQ (m:=m) (x:=L[i]) (y:=W[i].1) (hd _ (List.getElem_mem hlt)).1 (W[i]).2.1.2.2.1 (hd _ (List.getElem_mem hlt)).2 (ML hm (VQ _))
  have h:Ae (Ad tab) 90 [(L[i]).av,(W[i]).av] (· =.int .i64 (I8 m L[i] W[i].1)):=h
  by_cases he:I8 m L[i] W[i].1=0
  ·rw[he]at h
   (conv=>whnf);repeat' (first|(refine Aa h ?_;rintro _ rfl;conv=>whnf)|(refine kA ?_;conv=>whnf)|(refine Br.mk (fun hc=>?_) fun hc=>?_<;>first|exact hc.elim|conv=>whnf)|(refine kB ?_))
   all_goals first
        |exact again.mk ⟨_,by omega,i+1,rfl,fun k h1 h2 h3=>by
          by_cases e:k=i
          ·subst e;exact he
          ·exact hx k h1 h2 (by omega),rfl,rfl⟩
        |(exfalso;omega)
  ·generalize hz:I8 m L[i] W[i].1=z at h he
   (conv=>whnf);repeat' (first|(refine Aa h ?_;rintro _ rfl;conv=>whnf)|(refine kA ?_;conv=>whnf)|(refine Br.mk (fun hc=>?_) fun hc=>?_<;>first|exact hc.elim|conv=>whnf)|(refine kB ?_))
   all_goals first|exact Aw (fun h=>he (by rw[← hz];exact h.2 i hlt hi2))|(exfalso;omega)
 ·(conv=>whnf);repeat' (first  |(refine kA ?_;conv=>whnf)|(refine Br.mk (fun hc=>?_) fun hc=>?_<;>first|exact hc.elim|conv=>whnf)|(refine kB ?_))
  all_goals first|exact Bf ⟨hlen,fun k h1 h2=>hx k h1 h2 (by omega)⟩|(exfalso;omega)
theorem Xw {m:Nat} (hm:1≤m) {L:List GT} {W W':List GX} (hl:W.length=W'.length) (h:∀i (h1:i<W.length) (h2:i<W'.length),QK W[i] W'[i]=0):ZQ m L W↔ZQ m L W':=by
 have p:=YR m
 have key:∀(a b c:GT),I8 m b c=0→(I8 m a b=0↔I8 m a c=0):=fun a b c h=>by
  have h2:=p.anti b c
  constructor
  ·intro h3
   have h4:=p.anti a b
   have t1:=p.trans a b c (by omega) (by omega)
   have t2:=p.trans c b a (by omega) (by omega)
   have h5:=p.anti a c
   omega
  ·intro h3
   have h4:=p.anti a c
   have t1:=p.trans a c b (by omega) (by omega)
   have t2:=p.trans b c a (by omega) (by omega)
   have h5:=p.anti a b
   omega
 constructor
 ·rintro⟨e,k⟩
  exact⟨e.trans hl,fun i h1 h2=>(by
   have hb:i<W.length:=by omega
   exact(key _ _ _ (by rw[VP hm];exact h i hb h2)).1 (k i h1 hb))⟩
 ·rintro⟨e,k⟩
  exact⟨e.trans hl.symm,fun i h1 h2=>(by
   have hb:i<W'.length:=by omega
   exact(key _ _ _ (by rw[VP hm];exact h i h2 hb)).2 (k i h1 hb))⟩
theorem AbK {g h:GG} (e:F8 g=F8 h):ents (chk g).nodes=ents (chk h).nodes:=by
 have key:∀N:List GN,ents (N.map PO)=ents N:=fun N=>by unfold ents;rw[List.flatMap_map];rfl
 unfold chk
 rw[Xx e]
 split
 ·rw[← key g.nodes,←key h.nodes,ZR e]
 ·rfl
theorem Ad2 {g:GG} {c:GC} {m:Nat} {L:List GT} {b1:Bool} (hg:g.ok) (hc:c.ok) (hN:g.nodes.length≤40) (hE:g.edges.length≤80) (hm:1≤m) (hl:L.length≤300) (hd:Agd m L):
 ∃f1 f2 X Y e,Ae (Ad tab) 37 [.sl b1 (vs GT.av L),g.av,c.av] (· =.BL [.sl f1 X,.int .i64 e])∧Ae (Ad tab) 38 [.sl b1 (vs GT.av L),g.av,c.av] (· =.BL [.sl f2 Y,.int .i64 e])∧Ae (Ad tab) 39 [.sl f1 X,.sl f2 Y] (· =.bool true):=by
 have small:∀{h:GG},h.nodes.length≤2000→(chk h).nodes.length≤2000:=fun{h} q=>by unfold chk;split;exact q;simp
 have hnil:Ae (Ad tab) 39 [.sl false (vs GX.av []),.sl false (vs GX.av [])] (· =.bool true):=Afj (by simp) rfl (fun i h=>absurd h (by simp))
 obtain⟨_,⟨b,W,rfl,w1,w2⟩,pb⟩:=(AbL hg (small (by omega))).J4
 obtain⟨_,⟨b',W',rfl,w1',w2'⟩,pb'⟩:=(Abw hg (small (by omega))).J4
 have hlW:=G7 (KD (g:=g)) (chk g).nodes.length
 rw[List.take_length]at hlW
 have hs:(chk g).nodes.length≤40:=by unfold chk;split;exact hN;simp
 have e1:=w1.length_eq
 have e2:=w1'.length_eq
 rw[List.length_map]at e1 e2
 have pe:=Akg hm (L:=L) (W:=W) (b1:=b1) (b2:=b) hl (by omega) hd
 have ps:=Agf hm (L:=L) (W:=W') (b1:=b1) (b2:=b') hl (by omega) hd
 have hiff:=Xw hm (L:=L) (W:=W) (W':=W') (by omega) (fun i h1 h2=>NJ w1 w1' w2 w2' h1 h2)
 obtain⟨_,⟨h',rfl,hn',ho'⟩,pR⟩:=(Agg hg hc (by omega) (by omega)).J4
 have pP:=Af7 hg hc
 by_cases hD:ZQ m L W
 case neg=>
  rw[decide_eq_false hD]at pe
  rw[decide_eq_false (fun h=>hD (hiff.2 h))]at ps
  refine⟨false,false,[],[],19,?_,?_,hnil⟩
  ·refine Ac rfl rfl ?_
   (conv=>whnf);repeat' (first|((first|refine Aa pb ?_|refine Aa pe ?_);rintro _ rfl;conv=>whnf)|(refine kA ?_;conv=>whnf)|(refine Br.mk (fun hc=>?_) fun hc=>?_<;>first|exact hc.elim|conv=>whnf)|(refine kB ?_))
   all_goals first|rfl
  ·refine Ac rfl rfl ?_
   (conv=>whnf);repeat' (first|((first|refine Aa pb' ?_|refine Aa ps ?_);rintro _ rfl;conv=>whnf)|(refine kA ?_;conv=>whnf)|(refine Br.mk (fun hc=>?_) fun hc=>?_<;>first|exact hc.elim|conv=>whnf)|(refine kB ?_))
   all_goals first|rfl
 rw[decide_eq_true hD]at pe
 rw[decide_eq_true (hiff.1 hD)]at ps
 by_cases h0:(DT g c).2=0
 case neg=>
  generalize (DT g c).2=e at pP pR h0
  generalize (DT g c).1=k at pP
  refine⟨false,false,[],[],e,?_,?_,hnil⟩
  ·refine Ac rfl rfl ?_
   (conv=>whnf);repeat' (first|((first|refine Aa pb ?_|refine Aa pe ?_|refine Aa pP ?_);rintro _ rfl;conv=>whnf)|(refine kA ?_;conv=>whnf)|(refine Br.mk (fun hc=>?_) fun hc=>?_<;>first|exact hc.elim|conv=>whnf)|(refine kB ?_))
   all_goals first|rfl|(exfalso;omega)
  ·refine Ac rfl rfl ?_
   (conv=>whnf);repeat' (first|((first|refine Aa pb' ?_|refine Aa ps ?_|refine Aa pR ?_);rintro _ rfl;conv=>whnf)|(refine kA ?_;conv=>whnf)|(refine Br.mk (fun hc=>?_) fun hc=>?_<;>first|exact hc.elim|conv=>whnf)|(refine kB ?_))
   all_goals first|rfl|(exfalso;omega)
 have h0':DT g c=((DT g c).1,0):=by rw[← h0]
 obtain⟨k1,k2⟩:=AaU hg hc h0'
 rw[h0]at pP pR
 generalize (DT g c).1=k at pP hn' k1 k2
 have l1:=(Ad3 hn').1
 obtain⟨v,hv,pv⟩:=(AbL k1 (small (by omega))).J4
 obtain⟨w,hw,pw⟩:=(Abw ho' (small (by omega))).J4
 have hent:=AbK hn'
 rw[hent]at hw
 have hlK:=G7 (KD (g:=k)) (chk k).nodes.length
 rw[List.take_length]at hlK
 have hsk:(chk k).nodes.length≤41:=by unfold chk;split;omega;simp
 have pS:=Xy (M:=ents (chk k).nodes) (by omega) hv hw
 obtain⟨bv,Wv,rfl,-⟩:=hv
 obtain⟨bw,Ww,rfl,-⟩:=hw
 refine⟨_,_,_,_,0,?_,?_,pS⟩
 ·refine Ac rfl rfl ?_
  (conv=>whnf);repeat' (first|((first|refine Aa pb ?_|refine Aa pe ?_|refine Aa pP ?_|refine Aa pv ?_);rintro _ rfl;conv=>whnf)|(refine kA ?_;conv=>whnf)|(refine Br.mk (fun hc=>?_) fun hc=>?_<;>first|exact hc.elim|conv=>whnf)|(refine kB ?_))
  all_goals first|rfl|(exfalso;omega)
 ·refine Ac rfl rfl ?_
  (conv=>whnf);repeat' (first|((first|refine Aa pb' ?_|refine Aa ps ?_|refine Aa pR ?_|refine Aa pw ?_);rintro _ rfl;conv=>whnf)|(refine kA ?_;conv=>whnf)|(refine Br.mk (fun hc=>?_) fun hc=>?_<;>first|exact hc.elim|conv=>whnf)|(refine kB ?_))
  all_goals first|rfl|(exfalso;omega)
theorem YS:∀{L:List GT},(∀ x∈L,∃m,dep m x.v)→∃m,1≤m∧∀x∈L,dep m x.v
 |[],_=>⟨1,by omega,by simp⟩
 |x::L,h=>by
  obtain⟨m1,h1⟩:=h x (by simp)
  obtain⟨m2,h2,h3⟩:=YS fun y hy=>h y (List.mem_cons_of_mem _ hy)
  refine⟨m1+m2,by omega,fun y hy=>?_⟩
  rcases List.mem_cons.1 hy with rfl|hy
  ·exact ML (by omega) h1
  ·exact ML (by omega) (h3 y hy)
set_option maxRecDepth 10000 in
set_option maxHeartbeats 4000000 in
theorem VR:∀xs,likes Tryz.prog [69,25,51] xs→AA (Ad tab) 8 xs ⟨[],0⟩ fun out _=>out=.ok (.bool true):=by
 intro xs h
 match xs,h with
 |[x,y,z],h=>
  obtain⟨⟨d1,h1⟩,h2,⟨d3,h3⟩,_⟩:=h
  obtain⟨nn,L,rfl,_,hL,hq⟩:=AaT (f:=GT.av) (Q:=fun v=>v.v.ok∧∃m,dep m v.v) Tryz.underlying69 (fun d x h=>VK ⟨d,h⟩) h1
  obtain⟨g,rfl,hg⟩:=Xz h2
  obtain⟨c,rfl,hc⟩:=VT h3
  have hL:=SX hL
  unfold Ln at hL
  obtain⟨_,⟨b1,rfl,q1⟩,p1⟩:=(Agh hg).J4
  refine Aj rfl rfl ?_
  cases b1 with
  |false=>
   (conv=>whnf);repeat' (first|(refine Aa p1 ?_;rintro _ rfl;conv=>whnf)|(refine Bj XA (fun _=>?_) (fun h=>absurd trivial h);conv=>whnf)|(refine kA ?_;conv=>whnf)|(refine Br.mk (fun hc=>?_) fun hc=>?_<;>first|exact hc.elim|conv=>whnf)|(refine kB ?_))
   all_goals first|rfl|(exfalso;omega)
  |true=>
   obtain⟨s1,s2⟩:=q1 rfl
   by_cases hl:L.length≤300
   case neg=>
     (conv=>whnf);repeat' (first|(refine Aa p1 ?_;rintro _ rfl;conv=>whnf)|(refine Bj XA (fun _=>?_) (fun h=>absurd trivial h);conv=>whnf)|(refine kA ?_;conv=>whnf)|(refine Br.mk (fun hc=>?_) fun hc=>?_<;>first|exact hc.elim|conv=>whnf)|(refine kB ?_))
     all_goals first|rfl|(exfalso;omega)|(exfalso;simp only[List.length_map]at *;omega)
   obtain⟨m,hm,hd⟩:=YS (L:=L) fun x hx=>(hq x hx).2
   obtain⟨f1,f2,u,v,e,pP,pR,pS⟩:=Ad2 (b1:=nn) hg hc s1 s2 hm hl (fun x hx=>⟨(hq x hx).1,hd x hx⟩)
   (conv=>whnf);repeat' (first|((first|refine Aa p1 ?_|refine Aa pP ?_|refine Aa pR ?_|refine Aa pS ?_);rintro _ rfl;conv=>whnf)|(refine Bj XA (fun _=>?_) (fun h=>absurd trivial h);conv=>whnf)|(refine kA ?_;conv=>whnf)|(refine Br.mk (fun hc=>?_) fun hc=>?_<;>first|exact hc.elim|conv=>whnf)|(refine kB ?_))
   all_goals first|rfl|(exfalso;omega)|exact absurd rfl (by assumption)|(exfalso;simp only[List.length_map]at *;omega)
end AI
end Go.Proofs.YtceiccjppfapjaaGreatDoor
