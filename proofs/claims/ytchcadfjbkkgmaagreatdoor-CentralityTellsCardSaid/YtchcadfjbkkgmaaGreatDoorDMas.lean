/- A step of an editor. Cloned lists as a caller's own. A graph copied, for an editor. A graph copied, for an editor: the whole. change.ApplyAll, its loop. A checked graph is one that an editor may edit; change.ApplyAll. Changes in a row; the changes of one node by a script: plain. What a check finds, said in one; a step keeps graphs valid: plain. A step keeps graphs in good form; their lengths: plain. The reference's Steps answers. One more at the end of a list that is put into: what a reference's loop does, step by step. The reference puts nodes into a graph, exactly. The reference: lists of labels with one more, one less. The reference's null, lists of properties and labels. The reference sets a property, exactly. Taking out, at the end of a list. The reference takes a property away (set to null), exactly. The reference: lists of labels with one more, one less, exactly. Graphs up to the difference between no list and an empty one; a step does not see it. The reference's HasLabel. The reference: whether a node is used; a change of a node, exactly. The reference: changes of a node's labels and properties, exactly. The reference puts edges into a graph, exactly. The reference's Check of a change. The reference: a change of an edge, a step, exactly. change.Apply. The reference's Apply and ApplyAll are the program's, but for flags. A check does not look at flags: plain. An edge added; graphs alike but for flags. Plain. What a change does to ids and edges. Lists of pairs compared: slices.Equal, the reference's Same. ends. Update of the program. Update of the program: a change without ends. Update: the list where there are ends. Plain. Paths as values: their order, the program's and the reference's; sorting them in place: the order. A lookup among numbers that rise. Update of the program: a change with ends. Update of the program, whole. Update of the reference. The worked example. Changes as data; the ids that changes name: plain. The worked example; what the centrality laws ask. The law CentralityTells, about the evaluator. -/
import Derived.Test.YtchcadfjbkkgmaaGreatDoorDMar
import Derived.Test.YtchcadfjbkkgmaaGreatDoorDMah
import Derived.Test.YtchcadfjbkkgmaaGreatDoorDMag
import Derived.Test.YtchcadfjbkkgmaaGreatDoorDMam
import Derived.Test.YtchcadfjbkkgmaaGreatDoorDMai
import Derived.Test.YtchcadfjbkkgmaaGreatDoorDMaq
import Derived.Test.YtchcadfjbkkgmaaGreatDoorDMak
import Derived.Test.YtchcadfjbkkgmaaGreatDoorDMaj
import Derived.Test.YtchcadfjbkkgmaaGreatDoorDMal
set_option linter.unusedVariables false
set_option maxRecDepth 4000
namespace Go.Proofs.YtchcadfjbkkgmaaGreatDoor
namespace AI
section
variable {σ:List Obj} {d gd:Nat} {vN vE:AV} {nb eb:Bool} {N:List EN} {E:List EE} {x y:Int} {ct:Nat} {K:AA→Aj→Prop}
theorem Ed.Agg {σ:List Obj} {d gd:Nat} {vN vE:AV} {nb eb:Bool} {N:List EN} {E:List EE} {x y:Int} (h:Ed σ d gd vN vE nb eb N E x y) {o g:Nat} {c:Bool} {k:IntKind} {z:Int} (ho:nth σ o=some (.arr g 1 true c [.int k z])):∀q∈d::(vN.obj++(vE.obj++Jd N E)),q∉[o]:=by
 intro q hq hm
 obtain rfl:q=o:=by simpa using hm
 obtain⟨cn,hn1,_⟩:=h.hn
 obtain⟨ce,he1,_⟩:=h.he
 rcases List.mem_cons.1 hq with rfl|hq
 ·have:=h.box;rw[ho]at this;simp at this
 rcases List.mem_append.1 hq with hq|hq
 ·exact hn1.diff ho (by decide) hq
 rcases List.mem_append.1 hq with hq|hq
 ·exact he1.diff ho (by decide) hq
 rcases List.mem_append.1 hq with hq|hq<;>obtain⟨e,he,hm⟩:=List.mem_flatMap.1 hq
 ·rcases List.mem_append.1 hm with hm|hm
  ·rcases(h.hN e he).1 with⟨_,_,h1|⟨o',g',es',h1,h2⟩⟩|⟨_,o',g',h1,h2⟩
   ·rw[h1]at hm;simp[AV.obj]at hm
   ·rw[h1]at hm;simp only[AV.obj,List.mem_singleton]at hm;subst hm;rw[ho]at h2;simp at h2
   ·rw[h1]at hm;simp only[AV.obj,List.mem_singleton]at hm;subst hm;rw[ho]at h2
    simp only[Option.some.injEq,Obj.arr.injEq]at h2
    have:=h2.2.2.2.2
    cases hl:e.n.labels with
    |nil=>rw[hl]at this;simp[vs]at this
    |cons a l=>rw[hl]at this;simp[vs]at this
  ·exact(h.hN e he).2.diff ho (by decide) hm
 ·exact Hd.diff (h.hE e he) ho (by decide) hm
theorem EdG.cell {σ σ':List Obj} {d gd:Nat} {g:GG} (h:EdG σ d gd g) {o u:Nat} {c:Bool} {k:IntKind} {z:Int} (ho:nth σ o=some (.arr u 1 true c [.int k z])) (f:Fr σ σ' [o]):EdG σ' d gd g:=by
 obtain⟨vN,vE,nb,eb,N,E,x,y,hE,e⟩:=h
 exact⟨_,_,_,_,_,_,_,_,hE.fr f (hE.Agg ho),e⟩
end
section
variable {σ:List Obj} {ct:Nat}
end
structure Cp (σ0 σ:List Obj) (vN vE:AV) (g:GG) (N:List EN) (E:List EE):Prop where
 hn:∃c,Hd EN.av 3 σ vN g.nn N c∧(c=true→∀e∈N,e.av.closed=true)
 he:∃c,Hd EE.av 5 σ vE g.en E c∧(c=true→∀e∈E,e.av.closed=true)
 hN:∀e∈N,e.Ok σ
 hE:∀e∈E,e.Ok σ
 nd:(vN.obj++(vE.obj++Jd N E)).Nodup
 new:∀o∈vN.obj++(vE.obj++Jd N E),σ0.length≤o
 mN:N.map EN.n=g.nodes
 mE:E.map EE.e=g.edges
 fr:Fr σ0 σ []
section
variable {σ:List Obj} {ct:Nat} {K:AA→Aj→Prop}
end
def Adn:GG:=⟨false,[],false,[],0,0⟩
section
variable {σ:List Obj} {ct:Nat}
end
theorem Cp.ed {σ0 σ σ':List Obj} {oN uN nN oE uE nE gd:Nat} {g:GG} {N:List EN} {E:List EE} (h:Cp σ0 σ (.own oN uN 0 nN) (.own oE uE 0 nE) g N E) (hf:Fr σ σ' []) (hb:nth σ' σ.length=some (.arr gd 4 true false [.agg [.own oN uN 0 nN,.own oE uE 0 nE,.int .i64 g.Dn,.int .i64 g.DJ]])):EdG σ' σ.length gd g:=by
 obtain⟨cn,hn1,hn2⟩:=h.hn
 obtain⟨ce,he1,he2⟩:=h.he
 refine⟨_,_,g.nn,g.en,N,E,g.Dn,g.DJ,⟨hb,⟨cn,hn1.keep fun o ho=>hf.eq o (hn1.lt o ho) (by simp),hn2⟩,⟨ce,he1.keep fun o ho=>hf.eq o (he1.lt o ho) (by simp),he2⟩,
  fun e he=>(h.hN e he).keep fun o ho=>hf.eq o ((h.hN e he).lt o ho) (by simp),fun e he=>(h.hE e he).keep fun o ho=>hf.eq o ((h.hE e he).lt o ho) (by simp),
  List.nodup_cons.2 ⟨fun hm=>?_,h.nd⟩,by simp,by simp⟩,?_⟩
 ·have hlt:σ.length<σ.length:=by
   rcases List.mem_append.1 hm with hm|hm
   ·exact hn1.lt _ hm
   rcases List.mem_append.1 hm with hm|hm
   ·exact he1.lt _ hm
   rcases List.mem_append.1 hm with hm|hm<;>obtain⟨e,he,hm⟩:=List.mem_flatMap.1 hm
   ·exact(h.hN e he).lt _ hm
   ·exact(h.hE e he).lt _ hm
  omega
 ·obtain⟨a,b,c,d,e,f⟩:=g
  have h1:=h.mN
  have h2:=h.mE
  simp only[gOf]at*
  rw[h1,h2]
theorem Rd.Ce {σ:List Obj} {D:Nat} {xs ys:List AV} (h:Oc σ D xs ys):Rd σ (D+1) (.Ce xs) (.Ce ys):=fun m hm=>by
 obtain⟨m,rfl⟩:∃m',m=m'+1:=⟨m-1,by omega⟩
 simp only[snap,h m (by omega),Option.map_some]
theorem Rd.sl {σ:List Obj} {b:Bool} {xs:List AV}:Rd σ 1 (.sl b xs) (.sl b xs):=fun m hm=>by
 obtain⟨m,rfl⟩:∃m',m=m'+1:=⟨m-1,by omega⟩
 rfl
structure VN (n:GN):Prop where
 id:idG n.id
 nl:allNames n.labels
 nk:allNames (keysOf n.props)
 pl:allPlain n.props
 a:AaC n
structure VE (n:GE):Prop where
 id:idG n.id
 ty:isName n.ty
 nk:allNames (keysOf n.props)
 pl:allPlain n.props
 a:AdK n
structure VG (g:GG):Prop where
 ask:Ko g
 n:∀n∈g.nodes,VN n
 e:∀n∈g.edges,VE n
 ends:∀e∈g.edges,(∃ n∈g.nodes,n.id=e.fr)∧∃n∈g.nodes,n.id=e.to
section
variable {g:GG} {c:GC}
end
structure AtN (h:GG) (z:Int) (m:GN) (f:Int→Option GN) (E:List GE):Prop where
 ask:Ko h
 here:lk GN.id h.nodes z=some m
 rest:∀y,y≠z→lk GN.id h.nodes y=f y
 ed:h.edges=E
theorem AtN.put {h:GG} {z:Int} {m m':GN} {f:Int→Option GN} {E:List GE} (a:AtN h z m f E) (hid:m'.id=z) (hn:AaC m'):AtN {h with nodes:=EF H6 GN.id m' h.nodes} z m' f E where
 ask:=a.ask.QO hn ⟨m,(AaD a.here).1,by rw[hid];exact(AaD a.here).2⟩
 here:=by show lk GN.id (EF H6 GN.id m' h.nodes) z=_;rw[AdL Bq a.ask.iN,if_pos hid.symm]
 rest:=fun y hy=>by show lk GN.id (EF H6 GN.id m' h.nodes) y=_;rw[AdL Bq a.ask.iN,if_neg (by rw[hid];exact hy)];exact a.rest y hy
 ed:=a.ed
theorem AtN.id {h:GG} {z:Int} {m:GN} {f:Int→Option GN} {E:List GE} (a:AtN h z m f E):m.id=z:=(AaD a.here).2
section
variable {z:Int} {f:Int→Option GN} {E:List GE}
end
structure Chk (g:GG):Prop where
 vg:VG g
 nx:Gv g
 n:∀n∈g.nodes,n.id<g.Dn
 e:∀n∈g.edges,n.id<g.DJ
theorem Chk.QO {g:GG} (h:Chk g) {m:GN} (hm:VN m) (hx:∃n∈g.nodes,n.id=m.id):Chk {g with nodes:=EF H6 GN.id m g.nodes}:=by
 obtain⟨n0,hn0,e0⟩:=hx
 refine⟨⟨h.vg.ask.QO hm.a ⟨n0,hn0,e0⟩,fun n hn=>?_,h.vg.e,fun e he=>?_⟩,h.nx,fun n hn=>?_,h.e⟩
 ·rcases DR Bq hn with rfl|hn
  ·exact hm
  ·exact h.vg.n n hn
 ·have hk:∀z,(∃ n∈g.nodes,n.id=z)→∃n∈EF H6 GN.id m g.nodes,n.id=z:=fun z ⟨n,hn,e⟩=>by
   by_cases q:z=m.id
   ·exact⟨m,(Q8 Bq).2 (.inl rfl),q.symm⟩
   ·exact⟨n,(Q8 Bq).2 (.inr ⟨hn,by rw[show GN.id n=z from e];exact q⟩),e⟩
  exact⟨hk _ (h.vg.ends e he).1,hk _ (h.vg.ends e he).2⟩
 ·rcases DR Bq hn with rfl|hn
  ·have:=h.n n0 hn0;rw[e0]at this;exact this
  ·exact h.n n hn
theorem Chk.Y9 {g:GG} (h:Chk g) {m n0:GE} (hm:VE m) (hn0:n0∈g.edges) (e0:n0.id=m.id) (e1:n0.fr=m.fr) (e2:n0.to=m.to):Chk {g with edges:=EF H6 GE.id m g.edges}:=by
 refine⟨⟨h.vg.ask.Y9 hm.a ⟨n0,hn0,e0⟩,h.vg.n,fun n hn=>?_,fun e he=>?_⟩,h.nx,h.n,fun n hn=>?_⟩
 ·rcases DR Bq hn with rfl|hn
  ·exact hm
  ·exact h.vg.e n hn
 ·rcases DR Bq he with rfl|he
  ·rw[← e1,←e2];exact h.vg.ends n0 hn0
  ·exact h.vg.ends e he
 ·rcases DR Bq hn with rfl|hn
  ·have:=h.e n0 hn0;rw[e0]at this;exact this
  ·exact h.e n hn
structure AJ where
 fr:Int
 to:Int
 ed:Int
def AJ.av (a:AJ):AV:=.agg [.int .i64 a.fr,.int .i64 a.to,.int .i64 a.ed]
section
variable {α κ:Type} {lt:κ→κ→Bool} {key:α→κ}
end
section
variable {α κ:Type} {lt:κ→κ→Bool} {key:α→κ}
end
section
variable {α κ:Type} {lt:κ→κ→Bool} {key:α→κ} {f:α→α}
end
def Ald (n:GN):GN:=⟨n.id,true,n.labels,true,n.props⟩
def Ale (e:GE):GE:=⟨e.id,e.fr,e.to,e.ty,true,e.props⟩
def Abg (g:GG):GG:=⟨true,g.nodes.map Ald,true,g.edges.map Ale,g.Dn,g.DJ⟩
def YL (a b:Int×GG):Prop:=a.1=b.1∧Abg a.2=Abg b.2
theorem YL.trans {a b c:Int×GG} (h:YL a b) (k:YL b c):YL a c:=⟨h.1.trans k.1,h.2.trans k.2⟩
theorem YL.symm {a b:Int×GG} (h:YL a b):YL b a:=⟨h.1.symm,h.2.symm⟩
def atN (id:Int) (e:GE):Prop:=e.fr=id∨e.to=id
instance (id:Int) (e:GE):Decidable (atN id e):=by unfold atN;infer_instance
def Aat (k:Int×GG) (w:AV):Prop:=∃h:GG,w=.Ce [h.av,.int .i64 k.1]∧(k.1=0→Abg h=Abg k.2∧h.ok)∧(k.1≠0→h=Adn)
theorem Aat.no {e:Int} {g:GG} {k:Int×GG} (hk:k=(e,g)) (he:e≠0):Aat k (.Ce [Adn.av,.int .i64 e]):=by
 subst hk
 exact⟨Adn,rfl,fun h=>absurd h he,fun _=>rfl⟩
theorem Aat.yes {g h:GG} {k:Int×GG} (hk:k=(0,g)) (he:Abg h=Abg g) (ho:h.ok):Aat k (.Ce [h.av,.int .i64 0]):=by
 subst hk
 exact⟨h,rfl,fun _=>⟨he,ho⟩,fun h=>absurd rfl h⟩
structure Zi (g:GG):Prop where
 n:∀x∈g.nodes,x.id<g.Dn
 e:∀x∈g.edges,x.id<g.DJ
section
variable {g:GG} {n:GN} {z fr to:Int} {nm:List UInt8} {v:GV}
end
section
variable {g:GG} {n:GE} {z fr to:Int} {nm:List UInt8} {v:GV}
end
theorem Zi.QO {g:GG} (h:Zi g) {n:GN} (hm:∃m∈g.nodes,m.id=n.id):Zi {g with nodes:=EF H6 GN.id n g.nodes}:=
 ⟨fun x hx=>by
  rcases DR Bq hx with rfl|hx
  ·obtain⟨m,hm,e⟩:=hm;have:=h.n m hm;rw[e]at this;exact this
  ·exact h.n x hx,h.e⟩
theorem Zi.Y9 {g:GG} (h:Zi g) {n:GE} (hm:∃m∈g.edges,m.id=n.id):Zi {g with edges:=EF H6 GE.id n g.edges}:=
 ⟨h.n,fun x hx=>by
  rcases DR Bq hx with rfl|hx
  ·obtain⟨m,hm,e⟩:=hm;have:=h.e m hm;rw[e]at this;exact this
  ·exact h.e x hx⟩
theorem max_lt {a b c:Int} (h:a<b):a<(if c>b then c else b):=by split<;>omega
theorem Adt {a b c:Int} (h:a<c):a<(if c>b then c else b):=by split<;>omega
theorem Zi.node {g:GG} (h:Zi g) {c:GC}:Zi (Td g c).2:=by
 unfold Td
 split
 ·split
  ·exact h
  split
  ·refine⟨fun x hx=>?_,h.e⟩
   rcases DR Bq hx with rfl|hx
   ·exact Adt (by show c.id<c.id+1;omega)
   ·exact max_lt (h.n x hx)
  ·exact h
 split
 ·exact h
 rename_i n hf
 obtain⟨hn,hz⟩:=OG hf
 split
 ·split
  ·exact h
  ·exact⟨fun x hx=>h.n x (OE hx),h.e⟩
 split
 ·split
  ·exact h
  split
  ·exact h.QO ⟨n,hn,rfl⟩
  ·exact h
 split
 ·split
  ·exact h.QO ⟨n,hn,rfl⟩
  ·exact h
 split
 ·exact h.QO ⟨n,hn,rfl⟩
 split
 ·exact h.QO ⟨n,hn,rfl⟩
 ·exact h
theorem Zi.edge {g:GG} (h:Zi g) {c:GC}:Zi (Tf g c).2:=by
 unfold Tf
 split
 ·split
  ·exact h
  split
  ·split
   ·refine⟨h.n,fun x hx=>?_⟩
    rcases DR Bq hx with rfl|hx
    ·exact Adt (by show c.id<c.id+1;omega)
    ·exact max_lt (h.e x hx)
   ·exact h
  ·exact h
 split
 ·exact h
 rename_i n hf
 obtain⟨hn,hz⟩:=OG hf
 split
 ·exact⟨h.n,fun x hx=>h.e x (OE hx)⟩
 split
 ·exact h.Y9 ⟨n,hn,rfl⟩
 split
 ·exact h.Y9 ⟨n,hn,rfl⟩
 ·exact h
theorem Zi.step {g:GG} (h:Zi g) {c:GC}:Zi (stepG g c).2:=by
 unfold stepG
 split
 ·exact h
 split
 ·exact h.node
 ·exact h.edge
noncomputable def Ahm (g:GG) (c:GC):GE:=if c.op=7 then(g.edges.find? (fun n=>decide (n.id=c.id))).getD ⟨0,0,0,[],false,[]⟩else⟨0,c.fr,c.to,c.name,false,[]⟩
def Ajh (types:List (List UInt8)) (g:GG) (c:GC):Prop:=(c.op=6∨c.op=7)∧(Ahm g c).fr≠(Ahm g c).to∧HT types (Ahm g c)
noncomputable instance (types:List (List UInt8)) (g:GG) (c:GC):Decidable (Ajh types g c):=Classical.propDecidable _
noncomputable def trG (types:List (List UInt8)) (g:GG):List (Int×Int):=if Bd g=0 then YJ types g else[]
theorem Amh {g:GG} (hg:g.ok) (hN:g.nodes.length≤1000) (hE:g.edges.length≤1000) {types:List (List UInt8)} (ht:types.length<2^63) {tn:Bool}:∃b,(b=false→trG types g=[])∧Ah (Ac TU) 21 [g.av,.sl tn (vs .str types)] (· =.sl b (vs pv (trG types g))):=by
 have h:=Z4 (q:=⟨g,tn,types⟩) ⟨hg,hN,hE,ht⟩
 unfold TQ.out at h
 unfold trG
 by_cases hck:Bd g=0
 ·rw[if_pos hck]at h ⊢
  refine⟨_,fun e=>?_,h⟩
  have e:=of_decide_eq_false e
  dsimp only at e
  unfold YJ
  rw[List.eq_nil_of_length_eq_zero (show g.nodes.length=0 by omega)]
  rfl
 ·rw[if_neg hck]at h ⊢
  exact⟨_,fun _=>rfl,h⟩
section
open Go.Sort
def gvK (k:Int) (n:Int):GV:=⟨k,n,0,[],false,[]⟩
def wav (k:Int):List Int→List AV
 |[]=>[]
 |n::l=>(gvK k n).av::wav (11-k) l
def gvP (l:List Int):GV:=⟨7,0,0,[],true,wav 5 l⟩
structure Wk where
 l:List Int
 h:l.length≤1000∧∀n∈l,I64 n
def Wk.av (x:Wk):AV:=(gvP x.l).av
instance:DecidableEq Wk:=fun x y=>if h:x.l=y.l then isTrue (by obtain⟨l,hl⟩:=x;obtain⟨m,hm⟩:=y;obtain rfl:l=m:=h;rfl)else isFalse fun e=>h (by rw[e])
instance:Inhabited Wk:=⟨⟨[],by simp,by simp⟩⟩
noncomputable def AeJ (x:Wk):Int:=if VV 8 (gvP x.l)then((x.l.length / 2:Nat):Int)else -1
noncomputable def Akx (x y:Wk):Int:=SY (MW (AeJ x) (AeJ y)) (AhH 2 (gvP x.l) (gvP y.l))
noncomputable def AmT (x y:Wk):Bool:=decide (Akx x y<0)
attribute [irreducible] AmT Akx AeJ
end
def LQ:GG:=⟨true,[⟨1,false,[],false,[]⟩,⟨2,false,[],false,[]⟩,⟨3,false,[],false,[]⟩],true,[⟨1,1,2,[84],false,[]⟩,⟨2,2,3,[84],false,[]⟩],4,3⟩
theorem AjT:Ah (Ac tab) 26 [] (· =LQ.av):=⟨_,⟨60,by kernel_rfl⟩,rfl⟩
theorem AaH:LQ.ok:=by
 unfold GG.ok LQ Ln I64
 dsimp only
 refine⟨by simp,by simp,?_,by simp,by simp,?_,by omega,by omega⟩
 ·intro n hn
  simp only[List.mem_cons,List.not_mem_nil,or_false]at hn
  rcases hn with rfl|rfl|rfl<;>(unfold GN.ok Ln I64;dsimp only;refine⟨by omega,by simp,by simp,by simp,by simp,by simp,by simp⟩)
 ·intro n hn
  simp only[List.mem_cons,List.not_mem_nil,or_false]at hn
  rcases hn with rfl|rfl<;>(unfold GE.ok Ln I64;dsimp only;refine⟨by omega,by omega,by omega,by simp,by simp,by simp,by simp⟩)
set_option maxRecDepth 100000 in
theorem AjS:CB (run (Ac tab) 200) 27 [LQ.av]=some (.int .i64 0):=by kernel_rfl
theorem Ab0 {AP:Nat→Option Hy} {f:Nat} {args:List AV} {v w:AV} {n:Nat} (h:Ah AP f args (· =v)) (k:CB (run AP n) f args=some w):v=w:=by
 obtain⟨u,⟨m,h1⟩,rfl⟩:=h
 have e1:=Jy (LP (AP:=AP) (Nat.le_add_right m n)) h1
 have e2:=Jy (LP (AP:=AP) (Nat.le_add_left n m)) k
 rw[e1]at e2
 exact Option.some.inj e2
theorem AjR:Bd LQ=0:=by
 have h:=Ab0 (V9 AaH) AjS
 simpa using h
set_option maxRecDepth 100000 in
theorem aC:Ah (Ac tab) 9 [LQ.av,.sl false [],.int .i64 1] (· =.Ce [.agg [.int .i64 2,.int .i64 3],.bool true]):=⟨_,⟨200,by kernel_rfl⟩,rfl⟩
def AfN:AV:=.sl true [.agg [.int .i64 1,.int .i64 0,.int .i64 1],.agg [.int .i64 2,.int .i64 1,.int .i64 1],.agg [.int .i64 3,.int .i64 0,.int .i64 1]]
set_option maxRecDepth 100000 in
theorem aB:Ah (Ac tab) 11 [LQ.av,.sl false []] (· =.Ce [AfN,.int .i64 0]):=⟨_,⟨200,by kernel_rfl⟩,rfl⟩
theorem aS:Ah (Ac tab) 13 [AfN,AfN] (· =.bool true):=⟨_,⟨200,by kernel_rfl⟩,rfl⟩
set_option maxHeartbeats 2000000 in
theorem AdW:Ah (Ac TU) 8 [] (· =.bool true):=by
 have a0:=AjT.up upC
 have a1:=aC.up upC
 have a2:=aB.up upC
 have a3:=aS.up upC
 obtain⟨b4,_,a4⟩:=Amh (tn:=false) AaH (by decide) (by decide) (types:=[]) (by decide)
 have hl:(trG [] LQ).length=3:=by
  unfold trG
  rw[if_pos AjR]
  unfold YJ
  rw[List.length_map];rfl
 have a4:Ah (Ac TU) 21 [LQ.av,.sl false []] (· =.sl b4 (vs pv (trG [] LQ))):=a4
 generalize trG [] LQ=W at a4 hl
 unfold AfN at a2 a3
 refine Ad rfl rfl ?_
 (conv=>whnf);repeat' (first|((first|refine Aa a0 ?_|refine Aa a1 ?_|refine Aa a2 ?_|refine Aa a3 ?_|refine Aa a4 ?_);rintro _ rfl;conv=>whnf)|(refine kA ?_;conv=>whnf)|(refine Br.mk (fun hc=>?_) fun hc=>?_<;>first|exact hc.elim|conv=>whnf)|(refine kB ?_))
 all_goals first
  |rfl
  |(exfalso;omega)
theorem AhV {g:GG} (hg:g.ok) {types:List (List UInt8)} {tn:Bool} (ht:types.length<2^63):Ah (Ac tab) 7 [g.av,.sl tn (vs .str types)] (fun v=>∃b,v=.bool b∧(b=true→SmG g 12 24∧types.length≤8)):=by
 obtain⟨_,⟨b,rfl,hb⟩,p⟩:=(small hg (n:=12) (e:=24)).YI
 cases b with
 |false=>
  refine Ad rfl rfl ?_
  (conv=>whnf);repeat' (first|(refine Aa p ?_;rintro _ rfl;conv=>whnf)|(refine kA ?_;conv=>whnf)|(refine Br.mk (fun hc=>?_) fun hc=>?_<;>first|exact hc.elim|conv=>whnf)|(refine kB ?_))
  all_goals first
   |exact⟨false,rfl,fun h=>by cases h⟩
 |true=>
  have hs:=hb rfl
  refine Ad rfl rfl ?_
  (conv=>whnf);repeat' (first|(refine Aa p ?_;rintro _ rfl;conv=>whnf)|(refine kA ?_;conv=>whnf)|(refine Br.mk (fun hc=>?_) fun hc=>?_<;>first|exact hc.elim|conv=>whnf)|(refine kB ?_))
  all_goals first
   |exact⟨_,rfl,fun h=>⟨hs,by have:=of_decide_eq_true h;omega⟩⟩
   |exact⟨true,rfl,fun h=>⟨hs,by omega⟩⟩
   |exact⟨false,rfl,fun h=>by cases h⟩
theorem Zz {a:AV} (h:Like Tryz.prog 26 a):∃nn l,a=.sl nn (vs .str l)∧l.length<2^63:=by
 obtain⟨d,h⟩:=h
 obtain⟨nn,l,e,_,h2,_⟩:=AcP (f:=AV.str) (Q:=Ln) Tryz.underlying26 (fun d x h=>by
  obtain⟨k,e1,h1⟩:=Qp Tryz.underlying9 h
  exact⟨k,e1,U3 h1⟩) h
 exact⟨nn,l,e,U3 h2⟩
theorem Aem (types:List (List UInt8)) (g:GG) (id:Int):∃c o,clG types g id=.Ce [fv c,.bool o]:=by
 unfold clG
 split
 ·unfold clV
  split
  ·exact⟨_,_,rfl⟩
  ·exact⟨_,_,rfl⟩
 ·exact⟨_,_,rfl⟩
theorem Aen (types:List (List UInt8)) (g:GG) (hN:g.nodes.length≤12):∃b l e,btG types g=.Ce [.sl b (vs Rn l),.int .i64 e]∧l.length≤12:=by
 unfold btG
 split
 ·unfold btW
  split
  ·refine⟨_,_,_,rfl,?_⟩
   rw[List.length_zip,CV]
   omega
  ·exact⟨_,[],_,rfl,by simp⟩
 ·exact⟨_,[],_,rfl,by simp⟩
theorem Air (p:Int×(Nat×Nat)):bin .neq (.flat [.int,.int,.int]) (.agg (List.take 3 (Rn p).cells)) (.agg (List.take 3 (Rn p).cells))=some (.bool false):=by
 simp[bin,Y5,DC,CU,Rn,AV.cells]
theorem Akn (p:Nat×Nat):bin .eql (.flat [.int,.int]) (fv p) (fv p)=some (.bool true):=by
 simp[bin,Y5,DC,CU,fv]
theorem Agb {l:List (Int×(Nat×Nat))} {b1 b2:Bool} (hl:l.length<2^40):Ah (Ac tab) 13 [.sl b1 (vs Rn l),.sl b2 (vs Rn l)] (· =.bool true):=by
 refine Ad rfl rfl ?_
 (conv=>whnf);repeat' (first  |(refine kA ?_;conv=>whnf)|(refine Br.mk (fun hc=>?_) fun hc=>?_<;>first|exact hc.elim|conv=>whnf)|(refine kB ?_))
 all_goals first|(exfalso;omega)|skip
 refine Ai (fun z env s=>∃(i:Nat),z=l.length-i∧env=[(0,.sl b1 (vs Rn l)),(1,.sl b2 (vs Rn l)),(5,.int .i64 i)]∧s=⟨[],0⟩) ?_ _ _ _ ⟨0,rfl,rfl,rfl⟩
 rintro _ _ _ ⟨i,rfl,rfl,rfl⟩
 refine⟨rfl,?_⟩
 by_cases hlt:i<l.length
 ·have hb:=Air l[i]
  (conv=>whnf);repeat' (first|(apply Df hb;conv=>whnf)|(refine kA ?_;conv=>whnf)|(refine Br.mk (fun hc=>?_) fun hc=>?_<;>first|exact hc.elim|conv=>whnf)|(refine kB ?_))
  all_goals first
   |(exfalso;omega)
   |exact again.mk ⟨_,by omega,i+1,rfl,rfl,rfl⟩
 ·(conv=>whnf);repeat' (first  |(refine kA ?_;conv=>whnf)|(refine Br.mk (fun hc=>?_) fun hc=>?_<;>first|exact hc.elim|conv=>whnf)|(refine kB ?_))
  all_goals first|rfl|(exfalso;omega)
set_option maxRecDepth 10000 in
set_option maxHeartbeats 4000000 in
theorem Acb:∀xs,likes Tryz.prog [25,26,3] xs→D6 (Ac TU) 3 xs ⟨[],0⟩ fun out _=>out=.ok (.bool true):=by
 intro xs h
 match xs,h with
 |[x,y,z],h=>
  obtain⟨h1,h2,⟨d3,h3⟩,_⟩:=h
  obtain⟨g,rfl,hg⟩:=Zk h1
  obtain⟨tn,types,rfl,ht⟩:=Zz h2
  obtain⟨id,rfl,_⟩:=AcO Tryz.underlying3 h3
  obtain⟨_,⟨bs,rfl,hs⟩,p0⟩:=((AhV hg (types:=types) (tn:=tn) ht).up upC).YI
  refine PK rfl rfl ?_
  cases bs with
  |false=>
   (conv=>whnf);repeat' (first|((first|refine Aa AdW ?_|refine Aa p0 ?_);rintro _ rfl;conv=>whnf)|(refine kA ?_;conv=>whnf)|(refine Br.mk (fun hc=>?_) fun hc=>?_<;>first|exact hc.elim|conv=>whnf)|(refine kB ?_))
   all_goals first|rfl
  |true=>
   obtain⟨hsm,ht8⟩:=hs rfl
   have hN:g.nodes.length≤12:=by have:=hsm.1;omega
   have hE:g.edges.length≤1000:=by have:=hsm.2.1;omega
   have p1:=(AhG (id:=id) (tn:=tn) hg hN hE ht).up upC
   have p2:=(Ahf (id:=id) (tn:=tn) hg hN ht).up upC
   have p3:=(Aeo (tn:=tn) hg hN hE ht).up upC
   have p4:=(Aml (tn:=tn) hg hN ht).up upC
   obtain⟨c,o,hc⟩:=Aem types g id
   obtain⟨b,l,e,hb,hll⟩:=Aen types g hN
   rw[hc]at p1 p2
   rw[hb]at p3 p4
   have p5:=(Agb (l:=l) (b1:=b) (b2:=b) (by omega)).up upC
   have hf:=Akn c
   unfold fv at p1 p2 hf
   clear hc hb hs hsm
   cases o
   all_goals (
     (conv=>whnf);repeat' (first|((first|refine Aa AdW ?_|refine Aa p0 ?_|refine Aa p1 ?_|refine Aa p2 ?_|refine Aa p3 ?_|refine Aa p4 ?_|refine Aa p5 ?_);rintro _ rfl;conv=>whnf)|(refine Df hf ?_;conv=>whnf)|(refine kA ?_;conv=>whnf)|(refine Br.mk (fun hc=>?_) fun hc=>?_<;>first|exact hc.elim|conv=>whnf)|(refine kB ?_)))
   all_goals first|rfl|(exfalso;omega)|exact absurd rfl (by assumption)
end AI
end Go.Proofs.YtchcadfjbkkgmaaGreatDoor
